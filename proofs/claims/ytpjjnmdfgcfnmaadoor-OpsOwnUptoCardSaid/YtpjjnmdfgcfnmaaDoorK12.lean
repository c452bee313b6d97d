/- Part 12 of a proof: lemmas and walks. -/
import Derived.Test.YtpjjnmdfgcfnmaaDoorK11
import Derived.Test.YtpjjnmdfgcfnmaaDoorK7
import Derived.Test.YtpjjnmdfgcfnmaaDoorK3
import Derived.Test.YtpjjnmdfgcfnmaaDoorK4
set_option linter.unusedVariables false
set_option linter.unusedSimpArgs false
set_option maxRecDepth 100000
set_option maxHeartbeats 16000000
namespace Go.Proofs.YtpjjnmdfgcfnmaaDoor
open Go.RowKit

theorem isz_five : (Tryd.prog.info? 25).map (·.size) = some 5 := by kernel_rfl
theorem put_none {w0 w : World} {lo : Option Nat} (f : OpF) (d a k0 k1 k2 k3 k4 i s : Sl) (base g : Nat) (v : Value) (l : List UInt8) (ht : f.t ∉ ([1, 15, 19, 21, 2, 13, 5, 7, 120, 121, 6, 9, 103, 104, 3, 4, 8, 12, 101, 106, 18, -10, 14, 22] : List Int)) (h : FAt w0 lo f d a k0 k1 k2 k3 k4 i) (hw : w0.heap.size ≤ base) (hg : base ≤ g) (hb0 : Below w0.heap.size w0 w) (hv : Wr w base g v l) (hbase : base ≤ w.heap.size) (hsz : l.length + (fldB f).length + 64 ≤ 140737488355328) :
 Calls Tryd.prog 24 #[.pointer (some ⟨g, 0, none⟩), .agg (f.row d a k0 k1 k2 k3 k4 i s).toArray] w fun e w' => e = .returned (.tuple #[]) ∧ ∃ v', Wrote base g v v' l (fldB f) w w' := by
 simp only [zH, zI, or_false, not_or] at ht
 have hfb : fldB f = [] := by unfold fldB; simp [ht]
 rw [hfb]
 clear hfb hsz
 obtain ⟨n0, n1, n2, n3, n4, n5, n6, n7, n8, n9, n10, n11, n12, n13, n14, n15, n16, n17, n18, n19, n20, n21, n22, n23⟩ := ht
 have e0 : (f.t == 1) = false := by simpa using n0
 have e1 : (f.t == 15) = false := by simpa using n1
 have e2 : (f.t == 19) = false := by simpa using n2
 have e3 : (f.t == 21) = false := by simpa using n3
 have e4 : (f.t == 2) = false := by simpa using n4
 have e5 : (f.t == 13) = false := by simpa using n5
 have e6 : (f.t == 5) = false := by simpa using n6
 have e7 : (f.t == 7) = false := by simpa using n7
 have e8 : (f.t == 120) = false := by simpa using n8
 have e9 : (f.t == 121) = false := by simpa using n9
 have e10 : (f.t == 6) = false := by simpa using n10
 have e11 : (f.t == 9) = false := by simpa using n11
 have e12 : (f.t == 103) = false := by simpa using n12
 have e13 : (f.t == 104) = false := by simpa using n13
 have e14 : (f.t == 3) = false := by simpa using n14
 have e15 : (f.t == 4) = false := by simpa using n15
 have e16 : (f.t == 8) = false := by simpa using n16
 have e17 : (f.t == 12) = false := by simpa using n17
 have e18 : (f.t == 101) = false := by simpa using n18
 have e19 : (f.t == 106) = false := by simpa using n19
 have e20 : (f.t == 18) = false := by simpa using n20
 have e21 : (f.t == -10) = false := by simpa using n21
 have e22 : (f.t == 14) = false := by simpa using n22
 have e23 : (f.t == 22) = false := by simpa using n23
 clear n0 n1 n2 n3 n4 n5 n6 n7 n8 n9 n10 n11 n12 n13 n14 n15 n16 n17 n18 n19 n20 n21 n22 n23
 have HS0 := PutSt.mk' (f.row d a k0 k1 k2 k3 k4 i s).toArray hw hg hb0 hv hbase
 obtain ⟨cs, hcs⟩ : ∃ cs : Array Value, cs = (f.row d a k0 k1 k2 k3 k4 i s).toArray := ⟨_, rfl⟩
 obtain ⟨w1, hw1⟩ := xa w (f.row d a k0 k1 k2 k3 k4 i s).toArray 29
 rw [hw1] at HS0
 have HS := Hi HS0
 have HP0 : Hid (Wrote base g v v l [] w1 w1) := Wrote.start HS0.wr
 have d0 := HS0.cell HP0.out 0 (u := .int .i32 f.t) rfl
 rw [← hcs] at hw1 ⊢
 clear HS0 h hw hg hb0 hv hbase hcs
 go_enter Tryd.func24, Tryd.ntmps24
 go_wp2
 go_end0
 exact ⟨rfl, v, HP0.out.from HS.out.b1⟩
theorem put_101 {w0 w : World} {lo : Option Nat} (f : OpF) (d a k0 k1 k2 k3 k4 i s : Sl) (base g : Nat) (v : Value) (l : List UInt8) (ht : f.t = 101) (h : FAt w0 lo f d a k0 k1 k2 k3 k4 i) (hw : w0.heap.size ≤ base) (hg : base ≤ g) (hb0 : Below w0.heap.size w0 w) (hv : Wr w base g v l) (hbase : base ≤ w.heap.size) (hsz : l.length + (fldB f).length + 64 ≤ 140737488355328) :
 Calls Tryd.prog 24 #[.pointer (some ⟨g, 0, none⟩), .agg (f.row d a k0 k1 k2 k3 k4 i s).toArray] w fun e w' => e = .returned (.tuple #[]) ∧ ∃ v', Wrote base g v v' l (fldB f) w w' := by
 have hfb : fldB f = bLong f.zx ++ pListsB f := by unfold fldB; rw [ht]; rfl
 rw [hfb] at hsz ⊢
 clear hfb
 have HS0 := PutSt.mk' (f.row d a k0 k1 k2 k3 k4 i s).toArray hw hg hb0 hv hbase
 obtain ⟨cs, hcs⟩ : ∃ cs : Array Value, cs = (f.row d a k0 k1 k2 k3 k4 i s).toArray := ⟨_, rfl⟩
 obtain ⟨w1, hw1⟩ := xa w (f.row d a k0 k1 k2 k3 k4 i s).toArray 29
 rw [hw1] at HS0
 have HS := Hi HS0
 have HF := Hi h
 have HP0 : Hid (Wrote base g v v l [] w1 w1) := Wrote.start HS0.wr
 have d0 := HS0.cell HP0.out 0 (u := .int .i32 101) (by rw [← ht]; rfl)
 have d10 := HS0.cell HP0.out 10 (u := .int .i64 f.zx) rfl
 have e0 := h.k0.len
 have e1 := h.k1.len
 have e2 := h.k2.len
 have e3 := h.k3.len
 have e4 := h.k4.len
 have HPL : Hid (pListsB f = (bInt f.K0.length ++ bTexts f.K0) ++ ((bInt f.K1.length ++ bTexts f.K1) ++ ((bInt f.K2.length ++ bTexts f.K2) ++ ((bInt f.K3.length ++ bTexts f.K3) ++ ((bInt f.K4.length ++ bTexts f.K4) ++ []))))) := by
  unfold Hid pListsB OpF.lists
  simp only [List.flatMap_cons, List.flatMap_nil]
 obtain ⟨pl, hpl⟩ : ∃ x, x = pListsB f := ⟨_, rfl⟩
 rw [← hpl] at hsz HPL ⊢
 have hpn : pl.length = 20 + (bTexts f.K0).length + (bTexts f.K1).length + (bTexts f.K2).length + (bTexts f.K3).length + (bTexts f.K4).length := by
  rw [HPL.out]
  simp only [zG, bInt_len, zK]
  omega
 simp only [zG, bLong_len] at hsz
 rw [← hcs] at hw1 ⊢
 clear HS0 h hw hg hb0 hv hbase ht hcs hpl
 go_enter Tryd.func24, Tryd.ntmps24
 go_wp2_with (first
  | (go_at_call 46
     refine (wLong_any base g v _ _ _ HP0.out.1 (HS.out.le HP0.out) (by simp only [zG, zK]; omega)).mono ?_
     rintro e w2 ⟨rfl, v1, hp⟩
     have HP1 : Hid (Wrote base g v v1 l (bLong f.zx) w1 w2) := (by unfold Hid; have := HP0.out.cat zT hp; simpa using this)
     have HRL : Hid (∀ j u, ([k0.v, k1.v, k2.v, k3.v, k4.v] : List Value)[j]? = some u → w2.cell? ((⟨w.heap.size, 11, none⟩ : Addr).add j) = some u) := (fun j u hu => by
      rw [zN]
      have hj : j < 5 := by
       rcases Nat.lt_or_ge j 5 with h | h
       · exact h
       · rw [List.getElem?_eq_none (by simpa using h)] at hu; cases hu
      refine HS.out.cell HP1.out (11 + j) ?_
      rcases (by omega : j = 0 ∨ j = 1 ∨ j = 2 ∨ j = 3 ∨ j = 4) with rfl | rfl | rfl | rfl | rfl <;> exact hu)
     clear hp HP0 d0 d10)
  | (refine wpList_load_at (by rfl) 25 (.tmp 134) rfl ⟨w.heap.size, 11, none⟩ rfl [k0.v, k1.v, k2.v, k3.v, k4.v] _ HRL.out zU25 rfl isz_five ?_))
 go_loopw [136] (fun vi wr => ∃ (k : Nat) (v2 : Value) (pre post : List UInt8), k ≤ 5 ∧ vi = .int .i64 (k : Int) ∧ Hid (pl = pre ++ post) ∧ Hid (Wrote base g v v2 l (bLong f.zx ++ pre) w1 wr) ∧ Hid (post = ((f.lists.drop k).flatMap fun L => bInt L.length ++ bTexts L))) (fun vi _ => 5 - (intOf vi).toNat)
 case atStart => exact ⟨0, v1, [], pl, by omega, by go_num, rfl, (by unfold Hid; simpa using HP1.out), (by unfold Hid; rw [HPL.out]; unfold OpF.lists; simp only [List.drop_zero, List.flatMap_cons, List.flatMap_nil])⟩
 case round =>
  clear HP1 HRL
  obtain ⟨k, v2, pre, post, hk, rfl, HPR, HW, HPO⟩ := hrel
  by_cases hk5 : k < 5
  · rcases (by omega : k = 0 ∨ k = 1 ∨ k = 2 ∨ k = 3 ∨ k = 4) with rfl | rfl | rfl | rfl | rfl

    · have hpo : post = (bInt f.K0.length ++ bTexts f.K0) ++ ((f.lists.drop (0 + 1)).flatMap fun L => bInt L.length ++ bTexts L) := by rw [HPO.out]; rfl
      have hlen : pl.length = pre.length + (4 + (bTexts f.K0).length + ((f.lists.drop (0 + 1)).flatMap fun L => bInt L.length ++ bTexts L).length) := by rw [HPR.out, hpo]; simp only [zG, bInt_len]
      obtain ⟨rest, hrest⟩ : ∃ x, x = ((f.lists.drop (0 + 1)).flatMap fun L => bInt L.length ++ bTexts L) := ⟨_, rfl⟩
      rw [← hrest] at hpo hlen
      have HRE := Hi hrest
      have HPO2 := Hi hpo
      clear hpo hrest HPO hk hk5
      have hix : ∀ W, (Instr.index 25 (.agg #[k0.v, k1.v, k2.v, k3.v, k4.v]) (.int .i64 0)).run Tryd.prog W = .ok (.slice k0.A k0.n k0.c) W := fun W => by kernel_rfl
      go_wp2_with (first
       | (go_at_call 48
          refine (pTexts_any base g v2 _ k0.A k0.n k0.c w0.heap.size f.K0 _ HW.out.1 (by rw [← strCells_eq]; exact HF.out.k0.reads.below (HS.out.below HW.out)) HS.out.base0 HS.out.bg (HS.out.le HW.out) (Nat.le_trans (HF.out.k0.bd (by decide)) (by decide)) (by simp only [zG, bLong_len]; omega)).mono ?_
          rintro e w3 ⟨rfl, v3, hp⟩
          have HP := Hi (HW.out.cat zT hp)
          clear hp))
      go_roundw
      case rel => exact ⟨0 + 1, v3, pre ++ (bInt f.K0.length ++ bTexts f.K0), rest, by omega, by go_num, (by unfold Hid; rw [HPR.out, HPO2.out]; simp only [zL]), (by unfold Hid; have := HP.out; rw [← e0] at this; rwa [zL] at this), HRE.out⟩
      case measure => simp [intOf]
    · have hpo : post = (bInt f.K1.length ++ bTexts f.K1) ++ ((f.lists.drop (1 + 1)).flatMap fun L => bInt L.length ++ bTexts L) := by rw [HPO.out]; rfl
      have hlen : pl.length = pre.length + (4 + (bTexts f.K1).length + ((f.lists.drop (1 + 1)).flatMap fun L => bInt L.length ++ bTexts L).length) := by rw [HPR.out, hpo]; simp only [zG, bInt_len]
      obtain ⟨rest, hrest⟩ : ∃ x, x = ((f.lists.drop (1 + 1)).flatMap fun L => bInt L.length ++ bTexts L) := ⟨_, rfl⟩
      rw [← hrest] at hpo hlen
      have HRE := Hi hrest
      have HPO2 := Hi hpo
      clear hpo hrest HPO hk hk5
      have hix : ∀ W, (Instr.index 25 (.agg #[k0.v, k1.v, k2.v, k3.v, k4.v]) (.int .i64 1)).run Tryd.prog W = .ok (.slice k1.A k1.n k1.c) W := fun W => by kernel_rfl
      go_wp2_with (first
       | (go_at_call 48
          refine (pTexts_any base g v2 _ k1.A k1.n k1.c w0.heap.size f.K1 _ HW.out.1 (by rw [← strCells_eq]; exact HF.out.k1.reads.below (HS.out.below HW.out)) HS.out.base0 HS.out.bg (HS.out.le HW.out) (Nat.le_trans (HF.out.k1.bd (by decide)) (by decide)) (by simp only [zG, bLong_len]; omega)).mono ?_
          rintro e w3 ⟨rfl, v3, hp⟩
          have HP := Hi (HW.out.cat zT hp)
          clear hp))
      go_roundw
      case rel => exact ⟨1 + 1, v3, pre ++ (bInt f.K1.length ++ bTexts f.K1), rest, by omega, by go_num, (by unfold Hid; rw [HPR.out, HPO2.out]; simp only [zL]), (by unfold Hid; have := HP.out; rw [← e1] at this; rwa [zL] at this), HRE.out⟩
      case measure => simp [intOf]
    · have hpo : post = (bInt f.K2.length ++ bTexts f.K2) ++ ((f.lists.drop (2 + 1)).flatMap fun L => bInt L.length ++ bTexts L) := by rw [HPO.out]; rfl
      have hlen : pl.length = pre.length + (4 + (bTexts f.K2).length + ((f.lists.drop (2 + 1)).flatMap fun L => bInt L.length ++ bTexts L).length) := by rw [HPR.out, hpo]; simp only [zG, bInt_len]
      obtain ⟨rest, hrest⟩ : ∃ x, x = ((f.lists.drop (2 + 1)).flatMap fun L => bInt L.length ++ bTexts L) := ⟨_, rfl⟩
      rw [← hrest] at hpo hlen
      have HRE := Hi hrest
      have HPO2 := Hi hpo
      clear hpo hrest HPO hk hk5
      have hix : ∀ W, (Instr.index 25 (.agg #[k0.v, k1.v, k2.v, k3.v, k4.v]) (.int .i64 2)).run Tryd.prog W = .ok (.slice k2.A k2.n k2.c) W := fun W => by kernel_rfl
      go_wp2_with (first
       | (go_at_call 48
          refine (pTexts_any base g v2 _ k2.A k2.n k2.c w0.heap.size f.K2 _ HW.out.1 (by rw [← strCells_eq]; exact HF.out.k2.reads.below (HS.out.below HW.out)) HS.out.base0 HS.out.bg (HS.out.le HW.out) (Nat.le_trans (HF.out.k2.bd (by decide)) (by decide)) (by simp only [zG, bLong_len]; omega)).mono ?_
          rintro e w3 ⟨rfl, v3, hp⟩
          have HP := Hi (HW.out.cat zT hp)
          clear hp))
      go_roundw
      case rel => exact ⟨2 + 1, v3, pre ++ (bInt f.K2.length ++ bTexts f.K2), rest, by omega, by go_num, (by unfold Hid; rw [HPR.out, HPO2.out]; simp only [zL]), (by unfold Hid; have := HP.out; rw [← e2] at this; rwa [zL] at this), HRE.out⟩
      case measure => simp [intOf]
    · have hpo : post = (bInt f.K3.length ++ bTexts f.K3) ++ ((f.lists.drop (3 + 1)).flatMap fun L => bInt L.length ++ bTexts L) := by rw [HPO.out]; rfl
      have hlen : pl.length = pre.length + (4 + (bTexts f.K3).length + ((f.lists.drop (3 + 1)).flatMap fun L => bInt L.length ++ bTexts L).length) := by rw [HPR.out, hpo]; simp only [zG, bInt_len]
      obtain ⟨rest, hrest⟩ : ∃ x, x = ((f.lists.drop (3 + 1)).flatMap fun L => bInt L.length ++ bTexts L) := ⟨_, rfl⟩
      rw [← hrest] at hpo hlen
      have HRE := Hi hrest
      have HPO2 := Hi hpo
      clear hpo hrest HPO hk hk5
      have hix : ∀ W, (Instr.index 25 (.agg #[k0.v, k1.v, k2.v, k3.v, k4.v]) (.int .i64 3)).run Tryd.prog W = .ok (.slice k3.A k3.n k3.c) W := fun W => by kernel_rfl
      go_wp2_with (first
       | (go_at_call 48
          refine (pTexts_any base g v2 _ k3.A k3.n k3.c w0.heap.size f.K3 _ HW.out.1 (by rw [← strCells_eq]; exact HF.out.k3.reads.below (HS.out.below HW.out)) HS.out.base0 HS.out.bg (HS.out.le HW.out) (Nat.le_trans (HF.out.k3.bd (by decide)) (by decide)) (by simp only [zG, bLong_len]; omega)).mono ?_
          rintro e w3 ⟨rfl, v3, hp⟩
          have HP := Hi (HW.out.cat zT hp)
          clear hp))
      go_roundw
      case rel => exact ⟨3 + 1, v3, pre ++ (bInt f.K3.length ++ bTexts f.K3), rest, by omega, by go_num, (by unfold Hid; rw [HPR.out, HPO2.out]; simp only [zL]), (by unfold Hid; have := HP.out; rw [← e3] at this; rwa [zL] at this), HRE.out⟩
      case measure => simp [intOf]
    · have hpo : post = (bInt f.K4.length ++ bTexts f.K4) ++ ((f.lists.drop (4 + 1)).flatMap fun L => bInt L.length ++ bTexts L) := by rw [HPO.out]; rfl
      have hlen : pl.length = pre.length + (4 + (bTexts f.K4).length + ((f.lists.drop (4 + 1)).flatMap fun L => bInt L.length ++ bTexts L).length) := by rw [HPR.out, hpo]; simp only [zG, bInt_len]
      obtain ⟨rest, hrest⟩ : ∃ x, x = ((f.lists.drop (4 + 1)).flatMap fun L => bInt L.length ++ bTexts L) := ⟨_, rfl⟩
      rw [← hrest] at hpo hlen
      have HRE := Hi hrest
      have HPO2 := Hi hpo
      clear hpo hrest HPO hk hk5
      have hix : ∀ W, (Instr.index 25 (.agg #[k0.v, k1.v, k2.v, k3.v, k4.v]) (.int .i64 4)).run Tryd.prog W = .ok (.slice k4.A k4.n k4.c) W := fun W => by kernel_rfl
      go_wp2_with (first
       | (go_at_call 48
          refine (pTexts_any base g v2 _ k4.A k4.n k4.c w0.heap.size f.K4 _ HW.out.1 (by rw [← strCells_eq]; exact HF.out.k4.reads.below (HS.out.below HW.out)) HS.out.base0 HS.out.bg (HS.out.le HW.out) (Nat.le_trans (HF.out.k4.bd (by decide)) (by decide)) (by simp only [zG, bLong_len]; omega)).mono ?_
          rintro e w3 ⟨rfl, v3, hp⟩
          have HP := Hi (HW.out.cat zT hp)
          clear hp))
      go_roundw
      case rel => exact ⟨4 + 1, v3, pre ++ (bInt f.K4.length ++ bTexts f.K4), rest, by omega, by go_num, (by unfold Hid; rw [HPR.out, HPO2.out]; simp only [zL]), (by unfold Hid; have := HP.out; rw [← e4] at this; rwa [zL] at this), HRE.out⟩
      case measure => simp [intOf]
  · have hk2 : k = 5 := by omega
    subst hk2
    have hpe : pl = pre := by rw [HPR.out, HPO.out]; simp [OpF.lists]
    have HE := Hi hpe
    clear hpe HPO
    go_wp2
    go_end0
    exact ⟨rfl, v2, by rw [HE.out]; exact HW.out.from HS.out.b1⟩
def hdrB (t : Int) (b : Bool) : List UInt8 := bInt t ++ bBool b ++ bInt (-1)
theorem hdrB_len (t : Int) (b : Bool) : (hdrB t b).length = 9 := by
 unfold hdrB
 simp [bInt_len, bBool]
mutual
def OpC.putB : OpC → List UInt8
 | .mk f S => if f.t = 14 ∨ f.t = 22 then subsB S ++ hdrB (-1) true else fldB f
def subsB : List OpC → List UInt8
 | [] => []
 | x :: r => (hdrB x.f.t false ++ x.putB) ++ subsB r
end
theorem put_plain {w0 w : World} {lo : Option Nat} (f : OpF) (d a k0 k1 k2 k3 k4 i s : Sl) (base g : Nat) (v : Value) (l : List UInt8) (ht : ¬ (f.t = 14 ∨ f.t = 22)) (h : FAt w0 lo f d a k0 k1 k2 k3 k4 i) (hw : w0.heap.size ≤ base) (hg : base ≤ g) (hb0 : Below w0.heap.size w0 w) (hv : Wr w base g v l) (hbase : base ≤ w.heap.size) (hsz : l.length + (fldB f).length + 64 ≤ 140737488355328) :
 Calls Tryd.prog 24 #[.pointer (some ⟨g, 0, none⟩), .agg (f.row d a k0 k1 k2 k3 k4 i s).toArray] w fun e w' => e = .returned (.tuple #[]) ∧ ∃ v', Wrote base g v v' l (fldB f) w w' := by
 by_cases hn : f.t ∈ ([1, 15, 19, 21, 2, 13, 5, 7, 120, 121, 6, 9, 103, 104, 3, 4, 8, 12, 101, 106, 18, -10, 14, 22] : List Int)
 · simp only [zH, zI, or_false] at hn
   rcases hn with hc | hc | hc | hc | hc | hc | hc | hc | hc | hc | hc | hc | hc | hc | hc | hc | hc | hc | hc | hc | hc | hc | hc | hc
   · exact put_g0 1 (by decide) f d a k0 k1 k2 k3 k4 i s base g v l hc h hw hg hb0 hv hbase hsz
   · exact put_g0 15 (by decide) f d a k0 k1 k2 k3 k4 i s base g v l hc h hw hg hb0 hv hbase hsz
   · exact put_g0 19 (by decide) f d a k0 k1 k2 k3 k4 i s base g v l hc h hw hg hb0 hv hbase hsz
   · exact put_g1 21 (by decide) f d a k0 k1 k2 k3 k4 i s base g v l hc h hw hg hb0 hv hbase hsz
   · exact put_g2 2 (by decide) f d a k0 k1 k2 k3 k4 i s base g v l hc h hw hg hb0 hv hbase hsz
   · exact put_g2 13 (by decide) f d a k0 k1 k2 k3 k4 i s base g v l hc h hw hg hb0 hv hbase hsz
   · exact put_g3 5 (by decide) f d a k0 k1 k2 k3 k4 i s base g v l hc h hw hg hb0 hv hbase hsz
   · exact put_g4 7 (by decide) f d a k0 k1 k2 k3 k4 i s base g v l hc h hw hg hb0 hv hbase hsz
   · exact put_g5 120 (by decide) f d a k0 k1 k2 k3 k4 i s base g v l hc h hw hg hb0 hv hbase hsz
   · exact put_g6 121 (by decide) f d a k0 k1 k2 k3 k4 i s base g v l hc h hw hg hb0 hv hbase hsz
   · exact put_g6 6 (by decide) f d a k0 k1 k2 k3 k4 i s base g v l hc h hw hg hb0 hv hbase hsz
   · exact put_g6 9 (by decide) f d a k0 k1 k2 k3 k4 i s base g v l hc h hw hg hb0 hv hbase hsz
   · exact put_g6 103 (by decide) f d a k0 k1 k2 k3 k4 i s base g v l hc h hw hg hb0 hv hbase hsz
   · exact put_g6 104 (by decide) f d a k0 k1 k2 k3 k4 i s base g v l hc h hw hg hb0 hv hbase hsz
   · exact put_g7 3 (by decide) f d a k0 k1 k2 k3 k4 i s base g v l hc h hw hg hb0 hv hbase hsz
   · exact put_g7 4 (by decide) f d a k0 k1 k2 k3 k4 i s base g v l hc h hw hg hb0 hv hbase hsz
   · exact put_g7 8 (by decide) f d a k0 k1 k2 k3 k4 i s base g v l hc h hw hg hb0 hv hbase hsz
   · exact put_g7 12 (by decide) f d a k0 k1 k2 k3 k4 i s base g v l hc h hw hg hb0 hv hbase hsz
   · exact put_101 f d a k0 k1 k2 k3 k4 i s base g v l hc h hw hg hb0 hv hbase hsz
   · exact put_g8 106 (by decide) f d a k0 k1 k2 k3 k4 i s base g v l hc h hw hg hb0 hv hbase hsz
   · exact put_g8 18 (by decide) f d a k0 k1 k2 k3 k4 i s base g v l hc h hw hg hb0 hv hbase hsz
   · exact put_g9 (-10) (by decide) f d a k0 k1 k2 k3 k4 i s base g v l hc h hw hg hb0 hv hbase hsz
   · exact absurd (Or.inl hc) ht
   · exact absurd (Or.inr hc) ht
 · exact put_none f d a k0 k1 k2 k3 k4 i s base g v l hn h hw hg hb0 hv hbase hsz

theorem opPut_any {w0 : World} {lo : Option Nat} {x : OpC} {xs : List Value} (h : At w0 lo x xs) : ∀ (w : World) (base g : Nat) (v : Value) (l : List UInt8), w0.heap.size ≤ base → base ≤ g → Below w0.heap.size w0 w → Wr w base g v l → base ≤ w.heap.size → l.length + x.putB.length + 64 ≤ 140737488355328 →
 Calls Tryd.prog 24 #[.pointer (some ⟨g, 0, none⟩), .agg xs.toArray] w fun e w' => e = .returned (.tuple #[]) ∧ ∃ v', Wrote base g v v' l x.putB w w' := by
 induction h with
 | mk f d a k0 k1 k2 k3 k4 i s Q ok hd ha hk0 hk1 hk2 hk3 hk4 hi hs hQ ih =>
   intro w base g v l hw hg hb0 hv hbase hsz
   rw [OpC.putB] at hsz ⊢
   by_cases ht : f.t = 14 ∨ f.t = 22
   rotate_left
   · rw [if_neg ht] at hsz ⊢
     exact put_plain f d a k0 k1 k2 k3 k4 i s base g v l ht ⟨hd, ha, hk0, hk1, hk2, hk3, hk4, hi⟩ hw hg hb0 hv hbase hsz
   rw [if_pos ht] at hsz ⊢
   have HS0 := PutSt.mk' (f.row d a k0 k1 k2 k3 k4 i s).toArray hw hg hb0 hv hbase
   obtain ⟨cs, hcs⟩ : ∃ cs : Array Value, cs = (f.row d a k0 k1 k2 k3 k4 i s).toArray := ⟨_, rfl⟩
   obtain ⟨w1, hw1⟩ := xa w (f.row d a k0 k1 k2 k3 k4 i s).toArray 29
   rw [hw1] at HS0
   have HS := Hi HS0
   have HP0 : Hid (Wrote base g v v l [] w1 w1) := Wrote.start HS0.wr
   have d18 := HS0.cell HP0.out 18 (u := .slice s.A s.n s.c) rfl
   have d00 := HS0.cell HP0.out 0 (u := .int .i32 f.t) rfl
   have HR : Hid (Reads w0 w0.heap.size 19 s.A s.n (Q.flatMap Prod.snd)) := hs.reads
   have HQA : Hid (∀ q ∈ Q, At w0 lo q.1 q.2) := hQ
   have HSL : Hid (Q.length = s.n) := hs.len
   have HIH : Hid (∀ q ∈ Q, ∀ (w : World) (base g : Nat) (v : Value) (l : List UInt8), w0.heap.size ≤ base → base ≤ g → Below w0.heap.size w0 w → Wr w base g v l → base ≤ w.heap.size → l.length + q.1.putB.length + 64 ≤ 140737488355328 →
    Calls Tryd.prog 24 #[.pointer (some ⟨g, 0, none⟩), .agg q.2.toArray] w fun e w' => e = .returned (.tuple #[]) ∧ ∃ v', Wrote base g v v' l q.1.putB w w') := ih
   have hlen : s.n ≤ 4611686018427387904 := hs.bd (by decide)
   obtain ⟨S, hS⟩ : ∃ S, S = Q.map Prod.fst := ⟨_, rfl⟩
   have HSQ := Hi hS
   rw [← hS] at hsz ⊢
   simp only [zG, hdrB_len] at hsz
   rw [← hcs] at hw1 ⊢
   clear ih hs hd ha hk0 hk1 hk2 hk3 hk4 hi hQ ok hb0 hS hcs HS0 hv hw hg hbase
   obtain ⟨A, N, c⟩ := s
   dsimp only at HR HSL hlen d18
   rcases ht with ht | ht
   all_goals
    rw [ht] at d00
    clear ht
    go_enter Tryd.func24, Tryd.ntmps24
    go_wp2
    clear d00 d18
    go_loopw [170] (fun vi wr => ∃ (k : Nat) (v2 : Value) (pre : List UInt8), k ≤ N ∧ vi = .int .i64 (k : Int) ∧ Hid (subsB S = pre ++ subsB (S.drop k)) ∧ Hid (Wrote base g v v2 l pre w1 wr)) (fun vi _ => N - (intOf vi).toNat)
    case atStart => exact ⟨0, v, [], by omega, by go_num, (by unfold Hid; simp), HP0.out⟩
    case round =>
     clear HP0
     obtain ⟨k, v2, pre, hk, rfl, HK, HW⟩ := hrel
     by_cases hkn : k < N
     · have hkQ : k < Q.length := by rw [HSL.out]; exact hkn
       obtain ⟨ad, hA, hrow⟩ := rowAt (HR.out.below (HS.out.below HW.out)) HQA.out hkQ HSL.out
       subst hA
       have hdrop : S.drop k = (Q[k]).1 :: S.drop (k + 1) := by
        rw [HSQ.out, List.drop_eq_getElem_cons (by simpa using hkQ)]
        simp
       have hih := HIH.out (Q[k]) (List.getElem_mem _)
       have hx0 := (HQA.out (Q[k]) (List.getElem_mem _)).c0
       obtain ⟨⟨x, xc⟩, hx⟩ : ∃ x, x = Q[k] := ⟨_, rfl⟩
       rw [← hx] at hrow hdrop hih hx0
       dsimp only at hrow hdrop hih hx0
       have hk' := HK.out
       rw [hdrop, subsB] at hk'
       have hle : (subsB S).length = pre.length + (9 + x.putB.length + (subsB (S.drop (k + 1))).length) := by rw [hk']; simp only [zG, hdrB_len]
       have HK2 : Hid (subsB S = (pre ++ (hdrB x.f.t false ++ x.putB)) ++ subsB (S.drop (k + 1))) := by unfold Hid; rw [hk']; simp only [zL]
       have HROW := Hi hrow
       have HIK := Hi hih
       obtain ⟨w2, hw2⟩ := xa wr (xc.toArray) 29
       have hn2 := zW hw2
       have hb2 := zV hw2
       have cx0 := yC hn2 0 (by simpa using hx0)
       have HN2 := Hi hn2
       have HNE : Hid (wr.heap.size ∉ g :: v2.ownBlock.toList) := fun hx => by
        rcases zH.1 hx with hx | hx
        · have := HW.out.1.lt
          omega
        · have := (HW.out.1.2.lt wr.heap.size (by simpa using hx)).2
          omega
       have HW2 := Hi (HW.out.later hb2)
       generalize hxt : x.f.t = xt at cx0
       have HXT := Hi hxt
       clear hx hrow hdrop hih hx0 hk' hn2 hb2 hxt hkQ
       go_wp2_with (first
        | (refine wpList_load_at (by rfl) 29 (.tmp 172) rfl (ad.add (k * 19)) rfl xc _ HROW.out.cells zU29 rfl HROW.out.info ?_)
        | (refine wpList_newrow rfl rfl 29 rfl 7 rfl (.tmp 173) rfl rfl xc.toArray (fun _ => rfl) (show 7 < 184 by decide) HROW.out.zero HROW.out.infoA HROW.out.one ?_
           rw [hw2])
        | (go_at_call 50
           refine (header_any base g v2 _ xt false _ HW2.out.1 (HS.out.le HW2.out) (by simp only [zG]; omega)).mono ?_
           rintro e w3 ⟨rfl, v3, hp⟩
           have HW3 := Hi (HW2.out.cat zT hp)
           have HN3 : Hid (Blk w3 wr.heap.size 29 xc.toArray) := HN2.out.kp hp.2.1 HNE.out
           clear hp cx0)
        | (refine wpList_load_row rfl 29 (.tmp 7) rfl wr.heap.size rfl 29 _ _ _ HN3.out zU29 rfl HROW.out.infoA ?_)
        | (go_at_call 24
           refine (HIK.out _ base g v3 _ HS.out.base0 HS.out.bg (HS.out.below HW3.out) HW3.out.1 (HS.out.le HW3.out) (by simp only [zG, bInt_len, bBool, zJ]; omega)).mono ?_
           rintro e w4 ⟨rfl, v4, hp⟩
           have HW4 := Hi (HW3.out.cat zT hp)
           clear hp))
       go_roundw
       case rel => exact ⟨k + 1, v4, pre ++ (hdrB x.f.t false ++ x.putB), by omega, by go_num, HK2.out, (by unfold Hid hdrB; rw [HXT.out, ← zL]; exact HW4.out)⟩
       case measure => simp [intOf]; omega
     · have hkk : k = N := by omega
       subst hkk
       have hpe : subsB S = pre := by
        have h := HK.out
        rwa [List.drop_eq_nil_of_le (by rw [HSQ.out, List.length_map, HSL.out]; exact Nat.le_refl _), subsB, List.append_nil] at h
       rw [hpe] at hsz
       have HPE := Hi hpe
       clear HK hpe
       go_wp2_with (first
        | (go_at_call 50
           refine (header_any base g v2 _ (-1) true _ HW.out.1 (HS.out.le HW.out) (by simp only [zG]; omega)).mono ?_
           rintro e w3 ⟨rfl, v3, hp⟩
           have HW3 := Hi (HW.out.cat zT hp)
           clear hp))
       go_end0
       exact ⟨rfl, v3, by rw [HPE.out]; exact HW3.out.from HS.out.b1⟩

theorem bTexts_le (L : List ByteArray) : (bTexts L).length ≤ 4 * bulkS L := by
 unfold bTexts bulkS
 induction L with
 | nil => simp
 | cons x r ih =>
   rw [List.flatMap_cons, zG, List.map_cons, List.sum_cons, bBuf_len, ← bsize_eq]
   omega
theorem pIdsB_le (L : List (ByteArray × ByteArray)) : (pIdsB L).length ≤ 3 * bulkI L := by
 unfold pIdsB bulkI
 induction L with
 | nil => simp
 | cons x r ih =>
   rw [List.flatMap_cons, zG, List.map_cons, List.sum_cons, pIdB_len]
   omega
theorem pAclsB_le (L : List AclT) : (pAclsB L).length ≤ 3 * bulkA L := by
 unfold pAclsB bulkA
 induction L with
 | nil => simp
 | cons x r ih =>
   rw [List.flatMap_cons, zG, List.map_cons, List.sum_cons, pAclB_len]
   omega
theorem fldB_le (f : OpF) : (fldB f).length + 18 ≤ 5 * f.bulk := by
 have h0 := bTexts_le f.K0
 have h1 := bTexts_le f.K1
 have h2 := bTexts_le f.K2
 have h3 := bTexts_le f.K3
 have h4 := bTexts_le f.K4
 have h5 := pIdsB_le f.I
 have h6 := pAclsB_le f.L
 have hs := bsize_eq f.p
 have h7 : (pListsB f).length = 20 + (bTexts f.K0).length + (bTexts f.K1).length + (bTexts f.K2).length + (bTexts f.K3).length + (bTexts f.K4).length := by
  unfold pListsB OpF.lists
  simp only [List.flatMap_cons, List.flatMap_nil, zG, bInt_len, zK]
  omega
 have hb : f.bulk = 20 + f.p.size + f.l.length + bulkA f.L + bulkS f.K0 + bulkS f.K1 + bulkS f.K2 + bulkS f.K3 + bulkS f.K4 + bulkI f.I := rfl
 rw [hb]
 clear hb
 obtain ⟨n7, h8⟩ : ∃ n, n = (pListsB f).length := ⟨_, rfl⟩
 generalize bulkA f.L = b1 at h6
 generalize bulkI f.I = b2 at h5
 unfold fldB
 split
 · simp only [zG, bBuf_len, bInt_len, bLong_len, bBool, zJ, zK, ← bsize_eq]
   omega
 split
 · simp only [zG, bBuf_len, bInt_len, bLong_len, bBool, zJ, zK, ← bsize_eq]
   omega
 split
 · simp only [zG, bBuf_len, bInt_len, bLong_len, bBool, zJ, zK, ← bsize_eq]
   omega
 split
 · simp only [zG, bBuf_len, bInt_len, bLong_len, bBool, zJ, zK, ← bsize_eq]
   omega
 split
 · simp only [zG, bBuf_len, bInt_len, bLong_len, bBool, zJ, zK, ← bsize_eq]
   omega
 split
 · simp only [zG, bBuf_len, bInt_len, bLong_len, bBool, zJ, zK, ← bsize_eq]
   omega
 split
 · simp only [zG, bBuf_len, bInt_len, bLong_len, bBool, zJ, zK, ← bsize_eq]
   omega
 split
 · simp only [zG, bBuf_len, bInt_len, bLong_len, bBool, zJ, zK, ← bsize_eq]
   omega
 split
 · simp only [zG, bBuf_len, bInt_len, bLong_len, bBool, zJ, zK, ← bsize_eq]
   omega
 split
 · simp only [zG, bBuf_len, bInt_len, bLong_len, bBool, zJ, zK, ← bsize_eq]
   omega
 split
 · rename_i h101
   have : pListsB f = pListsB f := rfl
   simp only [zG, bLong_len]
   omega
 · simp only [zK]
   omega
mutual
theorem OpC.putB_le : ∀ x : OpC, x.putB.length + 9 ≤ 5 * x.bulk
 | .mk f S => by
   have h1 := fldB_le f
   have h2 := subsB_le S
   rw [OpC.putB, OpC.bulk]
   have h3 : 20 ≤ f.bulk := by unfold OpF.bulk; omega
   split
   · rw [zG, hdrB_len]; omega
   · omega
theorem subsB_le : ∀ S : List OpC, (subsB S).length ≤ 5 * bulkL S
 | [] => by rw [subsB, bulkL]; simp
 | x :: r => by
   have h1 := OpC.putB_le x
   have h2 := subsB_le r
   rw [subsB, bulkL]
   simp only [zG, hdrB_len]
   omega
end
def OpC.encE (x : OpC) : Int := if x.rightE ≠ 0 then x.rightE else if kindN x.f.t = 5 then 110 else 0
def encB (xid : Int) (x : OpC) : List UInt8 := bInt xid ++ bInt x.f.t ++ x.putB
def Encoded (w : World) (xid : Int) (x : OpC) (e : Ending) (w' : World) : Prop :=
 Below w.heap.size w w' ∧ ((x.encE ≠ 0 ∧ e = .returned (.tuple #[.slice none 0 0, .int .i64 x.encE])) ∨
  (x.encE = 0 ∧ ∃ base A c, w.heap.size ≤ base ∧ e = .returned (.tuple #[.slice A (encB xid x).length c, .int .i64 0]) ∧ w'.ownsRow base 5 1 (.slice A (encB xid x).length c) (encB xid x).length (bcells (encB xid x))))
theorem encode_of {w : World} {lo : Option Nat} {x : OpC} {xs : List Value} (xid : Int) (h : At w lo x xs) (hb : x.bulk ≤ 1000000000) (HR0 : ∀ W, Below w.heap.size w W → Calls Tryd.prog 11 #[.agg xs.toArray] W fun e w' => e = .returned (.int .i64 x.rightE) ∧ Below W.heap.size W w') (HP0 : ∀ (W : World) (base g : Nat) (v : Value) (l : List UInt8), w.heap.size ≤ base → base ≤ g → Below w.heap.size w W → Wr W base g v l → base ≤ W.heap.size → l.length + x.putB.length + 64 ≤ 140737488355328 →
 Calls Tryd.prog 24 #[.pointer (some ⟨g, 0, none⟩), .agg xs.toArray] W fun e w' => e = .returned (.tuple #[]) ∧ ∃ v', Wrote base g v v' l x.putB W w') :
 Calls Tryd.prog 10 #[.agg (.int .i32 xid :: xs).toArray] w (Encoded w xid x) := by
 have HR := Hi HR0
 have HP := Hi HP0
 have HK : Hid (∀ W, Calls Tryd.prog 12 #[.int .i32 x.f.t] W fun e w' => e = .returned (.int .i64 (kindN x.f.t)) ∧ w' = W) := fun W => kind_any x.f.t W
 have hpl := x.putB_le
 have hx0 := h.c0
 have h19 := h.len
 have HI19 : Hid ((Tryd.prog.info? 29).map (·.size) = some xs.length) := by unfold Hid; rw [h19]; exact isz_29
 obtain ⟨cs, hcs⟩ : ∃ cs : Array Value, cs = (Value.int .i32 xid :: xs).toArray := ⟨_, rfl⟩
 rw [← hcs]
 obtain ⟨w1, hw1⟩ := xa w cs 31
 have hb1 := zV hw1
 have hn1 : Blk w1 w.heap.size 31 (Value.int .i32 xid :: xs).toArray := by rw [← hcs, ← hw1]; exact Blk.new _ _ _
 have HB1 := Hi hb1
 have HN1 := Hi hn1
 have HRW : Hid (∀ W, Blk W w.heap.size 31 (Value.int .i32 xid :: xs).toArray → ∀ j v, xs[j]? = some v → W.cell? ((⟨w.heap.size, 1, none⟩ : Addr).add j) = some v) := fun W hB j v hv => by
  rw [zN, Nat.add_comm]
  exact yC hB (j + 1) (by simpa using hv)
 have HRW1 : Hid (∀ j v, xs[j]? = some v → w1.cell? ((⟨w.heap.size, 1, none⟩ : Addr).add j) = some v) := HRW.out w1 hn1
 have HX0 : Hid ((Value.int .i32 xid :: xs).toArray[1]? = some (.int .i32 x.f.t)) := by unfold Hid; simpa using hx0
 obtain ⟨re, hre⟩ : ∃ z, z = x.rightE := ⟨_, rfl⟩
 obtain ⟨kn, hkn⟩ : ∃ z, z = kindN x.f.t := ⟨_, rfl⟩
 obtain ⟨xt, hxt⟩ : ∃ z, z = x.f.t := ⟨_, rfl⟩
 obtain ⟨pb, hpb⟩ : ∃ z, z = x.putB := ⟨_, rfl⟩
 have hEE : x.encE = if re ≠ 0 then re else if kn = 5 then 110 else 0 := by unfold OpC.encE; rw [← hre, ← hkn]
 have hpn : pb.length ≤ 5000000000 := by rw [hpb]; omega
 obtain ⟨K, hK⟩ : ∃ K, K = bInt xid ++ bInt xt ++ pb := ⟨_, rfl⟩
 have hEB : encB xid x = K := by unfold encB; rw [← hxt, ← hpb, ← hK]
 have hKl : K.length ≤ 5000000008 := by rw [hK]; simp only [zG, bInt_len]; omega
 have HK7 := Hi hK
 rw [← hre] at HR
 rw [← hkn, ← hxt] at HK
 rw [← hxt] at HX0
 rw [← hpb] at HP hpl
 unfold Encoded
 rw [hEE, hEB]
 clear hcs h hb hb1 hn1 hre hkn hxt hpb hEE hEB hpl hx0 h19 hK HR0 HP0
 by_cases ho : re = 0
 rotate_left
 · rw [if_pos ho]
   have hob : (re != 0) = true := by simpa using ho
   have HO := Hi ho
   clear ho HP HK
   go_enter Tryd.func10, Tryd.ntmps10
   go_wp2_with (first
    | (refine wpList_load_at (by rfl) 29 (.tmp 6) rfl ⟨w.heap.size, 1, none⟩ rfl xs _ HRW1.out zU29 rfl HI19.out ?_)
    | (go_at_call 11
       refine (HR.out _ HB1.out).mono ?_
       rintro e w3 ⟨rfl, hb⟩
       have HB3 : Hid (Below w.heap.size w w3) := HB1.out.trans (hb.mono HB1.out.size)
       clear hb))
   go_ret2
   exact ⟨HB3.out, .inl ⟨HO.out, rfl⟩⟩
 rw [if_neg (by simpa using ho)]
 subst ho
 by_cases hk5 : kn = 5
 · rw [if_pos hk5]
   subst hk5
   clear HP
   go_enter Tryd.func10, Tryd.ntmps10
   go_wp2_with (first
    | (refine wpList_load_at (by rfl) 29 (.tmp 6) rfl ⟨w.heap.size, 1, none⟩ rfl xs _ HRW1.out zU29 rfl HI19.out ?_)
    | (go_at_call 11
       refine (HR.out _ HB1.out).mono ?_
       rintro e w3 ⟨rfl, hb⟩
       have HB3 : Hid (Below w.heap.size w w3) := HB1.out.trans (hb.mono HB1.out.size)
       have d1 := yC (HN1.out.below hb HN1.out.lt) 1 HX0.out
       clear hb)
    | (go_at_call 12; refine (HK.out _).mono ?_; rintro e w4 ⟨rfl, he⟩; obtain rfl := he.symm))
   go_ret2
   exact ⟨HB3.out, .inl ⟨by decide, rfl⟩⟩
 rw [if_neg hk5]
 have hkb : (kn == 5) = false := by simpa using hk5
 clear hk5
 go_enter Tryd.func10, Tryd.ntmps10
 go_wp2_with (first
  | (refine wpList_load_at (by rfl) 29 (.tmp 6) rfl ⟨w.heap.size, 1, none⟩ rfl xs _ HRW1.out zU29 rfl HI19.out ?_)
  | (go_at_call 11
     refine (HR.out _ HB1.out).mono ?_
     rintro e w2 ⟨rfl, hb⟩
     have HB2 : Hid (Below w.heap.size w w2) := HB1.out.trans (hb.mono HB1.out.size)
     have HN2 := Hi (HN1.out.below hb HN1.out.lt)
     have d1 := yC HN2.out 1 HX0.out
     obtain ⟨w3, hw3⟩ := xa w2 #[.slice none 0 0] 55
     have hb23 := zV hw3
     have HW3 : Hid (Wr w3 w2.heap.size w2.heap.size (.slice none 0 0) []) := ⟨by rw [← hw3]; exact Blk.new _ _ _, World.ownsRow_nil _ _ _ _⟩
     have HB23 := Hi hb23
     have HN3 := Hi (HN2.out.below hb23 HN2.out.lt)
     have c0 := yC HN3.out 0 (u := .int .i32 xid) rfl
     have hlt := HN2.out.lt
     have HNE : Hid (w.heap.size ∉ w2.heap.size :: (Value.slice none 0 0).ownBlock.toList) := (fun hx => by
      rcases zH.1 hx with hx | hx
      · omega
      · simp [Value.ownBlock] at hx)
     clear hb hb23)
  | (go_at_call 12; refine (HK.out _).mono ?_; rintro e w4 ⟨rfl, he⟩; obtain rfl := he.symm; clear d1)
  | (go_at_call 23
     refine (wInt_any w2.heap.size w2.heap.size _ [] xid _ HW3.out HB23.out.size (by simp)).mono ?_
     rintro e w4 ⟨rfl, v4, hp⟩
     have HP4 := Hi hp
     have e1 := yC (HN3.out.kp hp.2.1 HNE.out) 1 HX0.out
     have hz4 := Nat.le_trans HB23.out.size hp.size
     clear hp c0)
  | (go_at_call 23
     refine (wInt_any w2.heap.size w2.heap.size _ _ xt _ HP4.out.1 hz4 (by simp only [zG, bInt_len, zK]; omega)).mono ?_
     rintro e w5 ⟨rfl, v5, hp⟩
     have HP5 := Hi (HP4.out.cat zT hp)
     have HR5 : Hid (∀ j v, xs[j]? = some v → w5.cell? ((⟨w.heap.size, 1, none⟩ : Addr).add j) = some v) := HRW.out _ (HN3.out.kp HP5.out.2.1 HNE.out)
     have hz5 := Nat.le_trans hz4 hp.size
     clear hp e1 HP4)
  | (refine wpList_load_at (by rfl) 29 (.tmp 29) rfl ⟨w.heap.size, 1, none⟩ rfl xs _ HR5.out zU29 rfl HI19.out ?_)
  | (go_at_call 24
     refine (HP.out _ w2.heap.size w2.heap.size _ _ HB2.out.size zR (HB2.out.trans ((HB23.out.trans (HP5.out.below zR (fun x hx => by simp [Value.ownBlock] at hx) HB23.out.size)).mono HB2.out.size)) HP5.out.1 hz5 (by simp only [zG, bInt_len, zK]; omega)).mono ?_
     rintro e w6 ⟨rfl, v6, hp⟩
     have HP6 : Hid (Wrote w2.heap.size w2.heap.size (.slice none 0 0) v6 [] K w3 w6) := (by unfold Hid; rw [HK7.out]; exact HP5.out.cat zT hp)
     clear hp HP5 HR5)
  | (go_at_call 25
     refine (wBytes_any w2.heap.size w2.heap.size v6 K _ HP6.out.1 (by omega)).mono ?_
     rintro e w7 ⟨A7, c7, rfl, ho, hb⟩
     have HO7 := Hi ho
     have HB7 := Hi hb
     clear ho hb))
 go_ret2
 have hB6 : Below w.heap.size w w6 := HB2.out.trans ((HB23.out.trans (HP6.out.below zR (fun x hx => by simp [Value.ownBlock] at hx) HB23.out.size)).mono HB2.out.size)
 exact ⟨hB6.trans (HB7.out.mono hB6.size), (by first | exact .inr ⟨trivial, w6.heap.size, A7, c7, hB6.size, rfl, HO7.out⟩ | exact .inr ⟨rfl, w6.heap.size, A7, c7, hB6.size, rfl, HO7.out⟩)⟩
theorem encode_any {w : World} {lo : Option Nat} {x : OpC} {xs : List Value} (xid : Int) (h : At w lo x xs) (E : Env w) (hb : x.bulk ≤ 1000000000) :
 Calls Tryd.prog 10 #[.agg (.int .i32 xid :: xs).toArray] w (Encoded w xid x) := encode_of xid h hb (fun W hW => right_any (h.later hW) (E.below hW) hb) (opPut_any h)

abbrev Oq31R1 : Array Value := #[.int .i32 0, .int .i32 0, .string ⟨#[]⟩, .slice none 0 0, .slice none 0 0, .int .i32 0, .int .i32 0, .bool false, .int .i64 0, .int .i64 0, .int .i64 0, .int .i64 0, .slice none 0 0, .slice none 0 0, .slice none 0 0, .slice none 0 0, .slice none 0 0, .int .i32 0, .slice none 0 0, .slice none 0 0]

theorem hidT {w w1 w2 : World} (h : Hid (Below w.heap.size w w1)) (k : Below w1.heap.size w1 w2) : Hid (Below w.heap.size w w2) := Hi (h.out.trans (k.mono h.out.size))
theorem newB {w w' : World} {x} (h : w.alloc x = w') : Below w.heap.size w w' := by subst h; exact zT.alloc zR _
theorem newK {w w' : World} {t : TypeId} {cs : Array Value} (h : w.alloc (.cells cs t) = w') : Blk w' w.heap.size t cs := by subst h; exact Blk.new _ _ _
theorem wpAt (n : Nat) {a b c d e r P Q p f w} (h : wpList p f w (Oper.mk (some n) a b c d e :: r) P Q) : wpList p f w (Oper.mk (some n) a b c d e :: r) P Q := h
theorem encE_parts {x : OpC} (h : x.encE = 0) : x.rightE = 0 ∧ kindN x.f.t ≠ 5 := by
 unfold OpC.encE at h
 split at h
 · exact absurd h ‹_›
 rename_i h1
 split at h
 · cases h
 · exact ⟨by simpa using h1, by assumption⟩
theorem rightE_parts {x : OpC} (h : x.rightE = 0) : x.allE = 0 ∧ x.depth ≤ 8 ∧ x.parts ≤ 1024 ∧ x.multis ≤ 1024 := by
 unfold OpC.rightE at h
 split at h
 · exact absurd h ‹_›
 rename_i h1
 split at h
 · cases h
 rename_i h2
 simp only [Bool.or_eq_true, decide_eq_true_eq, not_or] at h2
 exact ⟨by simpa using h1, by omega, by omega, by omega⟩
theorem rightE_mk {x : OpC} (h1 : x.allE = 0) (h2 : x.depth ≤ 8) (h3 : x.parts ≤ 1024) (h4 : x.multis ≤ 1024) : x.rightE = 0 := by
 unfold OpC.rightE
 rw [if_neg (by simpa using h1), if_neg]
 simp only [Bool.or_eq_true, decide_eq_true_eq, not_or]
 omega
theorem decO_of {l : List UInt8} {y : Int × OpC} {q : Nat} (h : gReq l 0 = .inl (y, q)) : decO l = if q < l.length then .inl ((q : Int), 21) else .inr y := by
 unfold decO
 rw [h]
theorem decO_eq {l : List UInt8} {y : Int × OpC} {q : Nat} (h : gReq l 0 = .inl (y, q)) (hq : q = l.length) : decO l = .inr y := by
 rw [decO_of h, if_neg (by omega)]
theorem decO_lt {l : List UInt8} {y : Int × OpC} {q : Nat} (h : gReq l 0 = .inl (y, q)) (hq : q < l.length) : decO l = .inl ((q : Int), 21) := by
 rw [decO_of h, if_pos hq]
def aliveF : OpF := ⟨2, ⟨#[47, 97]⟩, [], [], 0, -1, false, 0, 0, 0, 0, [], [], [], [], [], 0, []⟩
def aliveX : OpC := .mk aliveF []
theorem aliveF_ok : aliveF.Ok := ⟨rfl, rfl, rfl, rfl, rfl, rfl, rfl, rfl, (by show (2 : Nat) ≤ reachBytes; unfold reachBytes; omega), fun _ h => (nomatch h), fun _ h => (nomatch h), fun _ h => (nomatch h), fun _ h => (nomatch h), fun _ h => (nomatch h), fun _ h => (nomatch h), fun _ h => (nomatch h)⟩
theorem alive_own : ownE aliveF 0 = 0 := by kernel_rfl
theorem alive_all : aliveX.allE = 0 := by
 unfold aliveX
 rw [OpC.allE, show ([] : List OpC).length = 0 from rfl, alive_own, if_neg (by simp), allL]
theorem alive_right : aliveX.rightE = 0 := rightE_mk alive_all (by unfold aliveX; rw [OpC.depth, if_neg (by decide)]; omega) (by unfold aliveX; rw [OpC.parts, if_neg (by decide)]; omega) (by unfold aliveX; rw [OpC.multis, if_neg (by decide)]; omega)
theorem alive_enc : aliveX.encE = 0 := by
 unfold OpC.encE
 rw [alive_right, if_neg (by simp), if_neg (by decide)]
def aliveB : List UInt8 := [0, 0, 0, 1, 0, 0, 0, 2, 0, 0, 0, 2, 47, 97, 255, 255, 255, 255]
theorem alive_bytes : encB 1 aliveX = aliveB := by
 unfold encB aliveX
 rw [OpC.putB, if_neg (by decide)]
 kernel_rfl
theorem alive_req : gReq aliveB 0 = .inl ((1, aliveX), 18) := by kernel_rfl
theorem alive_req0 : gReq (aliveB ++ [0]) 0 = .inl ((1, aliveX), 18) := by kernel_rfl
theorem get_two (n : Nat) : GetT 2 n := fun B R c p C A l k w _ h hC hCR _ hk _ _ => getX_of (get_g2 2 (by decide) B R c p A l w _ h) (opWith_fld (by decide) (by decide)) hC hCR hk
theorem alive_types {l : List UInt8} (h1 : gInt l 0 = .inl (1, 4)) (h2 : gInt l 4 = .inl (2, 8)) (z : Int) (q : Nat) (t : Int) (q' : Nat) (h3 : gInt l 0 = .inl (z, q)) (h4 : gInt l q = .inl (t, q')) : GetT t (l.length + 1) := by
 rw [h1] at h3
 injection h3 with h3
 injection h3 with _ h3
 subst h3
 rw [h2] at h4
 injection h4 with h4
 injection h4 with h4 _
 subst h4
 exact get_two _
theorem alive_typesA (z : Int) (q : Nat) (t : Int) (q' : Nat) : gInt (encB 1 aliveX) 0 = .inl (z, q) → gInt (encB 1 aliveX) q = .inl (t, q') → GetT t ((encB 1 aliveX).length + 1) := by
 rw [alive_bytes]; exact alive_types (by kernel_rfl) (by kernel_rfl) z q t q'
theorem alive_typesB (z : Int) (q : Nat) (t : Int) (q' : Nat) : gInt (encB 1 aliveX ++ [0]) 0 = .inl (z, q) → gInt (encB 1 aliveX ++ [0]) q = .inl (t, q') → GetT t ((encB 1 aliveX ++ [0]).length + 1) := by
 rw [alive_bytes]; exact alive_types (by kernel_rfl) (by kernel_rfl) z q t q'
theorem alive_len : (encB 1 aliveX).length = 18 := by
 unfold encB aliveX
 rw [OpC.putB, if_neg (by decide)]
 show (bInt 1 ++ bInt 2 ++ (bBuf [47, 97] ++ bInt (-1))).length = 18
 simp only [zG, bInt_len, bBuf_len, zM, zK]
theorem alive_bulk : aliveX.bulk ≤ 1000000000 := by
 unfold aliveX
 rw [OpC.bulk, bulkL]
 decide
theorem alive_nodes : aliveX.nodes ≤ 1000000 := by
 unfold aliveX
 rw [OpC.nodes, nodesL]
 decide
theorem alive_flat : aliveX.flatten = [aliveX] := by
 unfold OpC.flatten
 rw [alive_right, if_neg (by simp)]
 unfold aliveX
 rw [OpC.flat, if_neg (by decide)]
def aliveR : List Value := aliveF.row nilS nilS nilS nilS nilS nilS nilS nilS nilS
theorem alive_at (w : World) : At w (some 0) aliveX aliveR := .mk aliveF nilS nilS nilS nilS nilS nilS nilS nilS nilS [] aliveF_ok (SlAt.zero _ _ _ _ _) (SlAt.zero _ _ _ _ _) (SlAt.zero _ _ _ _ _) (SlAt.zero _ _ _ _ _) (SlAt.zero _ _ _ _ _) (SlAt.zero _ _ _ _ _) (SlAt.zero _ _ _ _ _) (SlAt.zero _ _ _ _ _) (SlAt.zero _ _ _ _ _) (fun _ h => by cases h)
theorem At.c1 {w : World} {lo : Option Nat} {x : OpC} {cs : List Value} (h : At w lo x cs) : cs[1]? = some (.string x.f.p) := by
 cases h
 rfl
theorem At.c5 {w : World} {lo : Option Nat} {x : OpC} {cs : List Value} (h : At w lo x cs) : cs[5]? = some (.int .i32 x.f.ve) := by
 cases h
 rfl
theorem own_capO {w : World} {base size n c : Nat} {e : TypeId} {A : Option Addr} {xs : List Value} (h : w.ownsRow base e size (.slice A n c) n xs) : n ≤ c := by
 rcases h.2 with ⟨h1, h2⟩ | ⟨g, cap, cur, h1, _, _, hc, _⟩
 · injection h1 with _ h3 h4
   omega
 · injection h1 with _ _ h3
   omega
theorem reads_litO (w : World) (t : TypeId) (fr : Nat × Nat) (xs : List Value) : Reads (w.alloc (.cells xs.toArray t fr)) (w.heap.size + 1) 1 (some ⟨w.heap.size, 0, none⟩) xs.length xs :=
 ⟨by simp, fun _ => ⟨_, rfl, Nat.lt_succ_self _, fun j u hu => by
   have h := cell_of_row (w.alloc (.cells xs.toArray t fr)) w.heap.size j xs.toArray t fr (heap_alloc_new w _)
   rw [zN, Nat.zero_add, h]
   simpa using hu⟩⟩
theorem own_lowO {w : World} {b b' size n : Nat} {e : TypeId} {v : Value} {xs : List Value} (h : w.ownsRow b e size v n xs) (hb : b' ≤ b) : w.ownsRow b' e size v n xs :=
 ⟨h.1, h.2.imp id fun ⟨g, cap, cur, h1, h2, h3⟩ => ⟨g, cap, cur, h1, Nat.le_trans hb h2, h3⟩⟩
structure ReqRow (w : World) (g : Nat) (z : Int) (x : OpC) (cs : List Value) : Prop where
 blk : Blk w g 31 (Value.int .i32 z :: cs).toArray
 c0 : w.cell? ⟨g, 0, none⟩ = some (.int .i32 z)
 cp : w.cell? ⟨g, 2, none⟩ = some (.string x.f.p)
 cv : w.cell? ⟨g, 6, none⟩ = some (.int .i32 x.f.ve)
 row : ∀ j v, cs[j]? = some v → w.cell? ((⟨g, 1, none⟩ : Addr).add j) = some v
theorem ReqRow.mk' {w w0 : World} {lo : Option Nat} {g : Nat} {z : Int} {x : OpC} {cs : List Value} (h : Blk w g 31 (Value.int .i32 z :: cs).toArray) (ha : At w0 lo x cs) : ReqRow w g z x cs :=
 ⟨h, yC h 0 rfl, yC h 2 (by have := ha.c1; simpa using this), yC h 6 (by have := ha.c5; simpa using this), fun j v hv => by
   rw [zN, Nat.add_comm]
   exact yC h (j + 1) (by simpa using hv)⟩
theorem dec_alive1 {w w' : World} {e : Ending} (h : Decoded (encB 1 aliveX) w e w') : Below w.heap.size w w' ∧ ∃ cs : List Value, e = .returned (.tuple #[.agg (Value.int .i32 1 :: cs).toArray, .int .i64 0, .int .i64 0]) ∧ At w' (some w.heap.size) aliveX cs := by
 obtain ⟨h1, h2⟩ := h
 rw [alive_bytes, decO_eq alive_req rfl] at h2
 exact ⟨h1, h2⟩
theorem dec_alive2 {w w' : World} {e : Ending} (h : Decoded (encB 1 aliveX ++ [0]) w e w') : Below w.heap.size w w' ∧ e = .returned (.tuple #[.agg zReq.toArray, .int .i64 18, .int .i64 21]) := by
 obtain ⟨h1, h2⟩ := h
 rw [alive_bytes, decO_lt alive_req0 (by decide)] at h2
 exact ⟨h1, h2.2.2⟩
theorem enc_alive {w w' : World} {e : Ending} (h : Encoded w 1 aliveX e w') : Below w.heap.size w w' ∧ ∃ base A c, w.heap.size ≤ base ∧ e = .returned (.tuple #[.slice A 18 c, .int .i64 0]) ∧ w'.ownsRow base 5 1 (.slice A 18 c) 18 (bcells (encB 1 aliveX)) := by
 obtain ⟨h1, h2 | ⟨_, h2⟩⟩ := h
 · exact absurd alive_enc h2.1
 · rw [alive_len] at h2
   exact ⟨h1, h2⟩
theorem list_alive {w w' : World} {e : Ending} (h : Listed w aliveX.flatten e w') : Below w.heap.size w w' ∧ ∃ A c, e = .returned (.slice A 1 c) := by
 obtain ⟨A, c, R, base, h1, h2, h3, h4, h5⟩ := h
 rw [alive_flat] at h2
 have : R.length = 1 := by have := congrArg List.length h2; simpa using this
 rw [this] at h1
 exact ⟨h5, A, c, h1⟩
theorem alive_of (w : World) (E : Env w) (RX : ∀ {W : World} {lo : Option Nat} {xs : List Value}, At W lo aliveX xs → Env W → Calls Tryd.prog 11 #[.agg xs.toArray] W fun e w' => e = .returned (.int .i64 aliveX.rightE) ∧ Below W.heap.size W w') (PX : ∀ {W0 : World} {lo : Option Nat} {xs : List Value}, At W0 lo aliveX xs → ∀ (W : World) (base g : Nat) (v : Value) (l : List UInt8), W0.heap.size ≤ base → base ≤ g → Below W0.heap.size W0 W → Wr W base g v l → base ≤ W.heap.size → l.length + aliveX.putB.length + 64 ≤ 140737488355328 →
 Calls Tryd.prog 24 #[.pointer (some ⟨g, 0, none⟩), .agg xs.toArray] W fun e w' => e = .returned (.tuple #[]) ∧ ∃ v', Wrote base g v v' l aliveX.putB W w') : Calls Tryd.prog 8 #[] w fun e w' => e = .returned (.bool true) ∧ Below w.heap.size w w' := by
 have HE1 := Hi (fun W (h : Below w.heap.size w W) => E.below h)
 have henc : Calls Tryd.prog 10 #[.agg #[.int .i32 1, .int .i32 2, .string ⟨#[47, 97]⟩, .slice none 0 0, .slice none 0 0, .int .i32 0, .int .i32 (-1), .bool false, .int .i64 0, .int .i64 0, .int .i64 0, .int .i64 0, .slice none 0 0, .slice none 0 0, .slice none 0 0, .slice none 0 0, .slice none 0 0, .int .i32 0, .slice none 0 0, .slice none 0 0]] w (Encoded w 1 aliveX) := encode_of 1 (alive_at w) alive_bulk (fun W hW => RX ((alive_at w).later hW) (E.below hW)) (PX (alive_at w))
 have HENC := Hi (henc.mono fun e w' h => enc_alive h)
 have HLEN := Hi alive_len
 have HCL : Hid ((encB 1 aliveX ++ [0]).length = 19) := by unfold Hid; rw [zG, alive_len]; rfl
 obtain ⟨i0, hi0, hz0, hzi1, hzi2⟩ := info_parts u8_info
 have HBCN : Hid (bcells (encB 1 aliveX) ++ [.int .u8 0] = bcells (encB 1 aliveX ++ [0])) := by unfold Hid bcells; rw [List.map_append]; rfl
 have HRX : Hid (∀ {W : World} {lo : Option Nat} {xs : List Value}, At W lo aliveX xs → Env W → Calls Tryd.prog 11 #[.agg xs.toArray] W fun e w' => e = .returned (.int .i64 aliveX.rightE) ∧ Below W.heap.size W w') := RX
 clear E henc RX PX
 go_enter Tryd.func8, Tryd.ntmps8
 go_wp2_with (first
  | (go_at_call 10
     refine HENC.out.mono ?_
     rintro e w2 ⟨hb2, base, A, c, hbase, rfl, ho⟩
     have HB2 := Hi hb2
     have HO2 := Hi ho
     have HBS := Hi hbase
     have HD := Hi (opDecode_of c 18 A (encB 1 aliveX) w2 alive_typesA (Reads.of_own ho) (own_capO ho) (by omega) (fun h => (own_nil ho h).2) (HE1.out _ hb2))
     clear hb2 ho hbase)
  | (go_at_call 13
     refine HD.out.mono ?_
     rintro e w3 hd
     obtain ⟨hb3, cs, rfl, hat⟩ := dec_alive1 hd
     have HB3 := hidT HB2 hb3
     have hz23 := hb3.size
     have HO3 := Hi (own_below HO2.out hb3)
     have HAT := Hi hat
     obtain ⟨cq, hcq⟩ : ∃ x, x = (Value.int .i32 1 :: cs).toArray := ⟨_, rfl⟩
     rw [← hcq]
     have HCQ := Hi hcq
     have hsz : 20 = cq.size := (by rw [hcq, zO, zM, hat.len])
     have HSZ := Hi hsz
     have HZE : Hid (((Tryd.prog.info? 31).bind (·.zero)).map (·.cells.size) = some cq.size) := (by unfold Hid; rw [← hsz]; kernel_rfl)
     have HIS : Hid ((Tryd.prog.info? 31).map (·.size) = some cq.size) := (by unfold Hid; rw [← hsz]; exact req_size)
     have HON : Hid (cq.all (·.oneCell') = true) := (by
      unfold Hid
      have := hat.one
      rw [zQ] at this ⊢
      intro v hv
      rw [hcq] at hv
      rcases zH.1 (by simpa using hv) with rfl | hv
      · rfl
      · exact this v (by simpa using hv))
     have HI19 : Hid ((Tryd.prog.info? 29).map (·.size) = some cs.length) := (by unfold Hid; rw [hat.len]; exact isz_29)
     clear hd hb3 hat hcq hsz HD)
  | (with_reducible refine wpAt 3 ?_
     refine wpList_newrow rfl rfl 31 rfl 3 rfl (.tmp 18) rfl rfl cq (fun _ => rfl) (show 3 < 76 by decide) HZE.out HIS.out HON.out ?_
     obtain ⟨w4, hnew⟩ : ∃ x, w3.alloc (.cells cq 31) = x := ⟨_, rfl⟩
     rw [hnew]
     have hbn := newB hnew
     have HB4 := hidT HB3 hbn
     have HB34 := Hi hbn
     have HR4 : Hid (ReqRow w4 w3.heap.size 1 aliveX cs) := ReqRow.mk' (by rw [← hnew, HCQ.out]; exact Blk.new _ _ _) HAT.out
     have HOL : Hid (w4.ownsRow w.heap.size 5 1 (.slice A 18 c) 18 (bcells (encB 1 aliveX))) := own_lowO (own_below HO3.out hbn) HBS.out
     have hz4 : w3.heap.size ≤ w4.heap.size := hbn.size
     have hz40 := HB4.out.size
     clear hnew hbn)
  | (with_reducible refine wpAt 24 ?_; refine Hid.out ?_))
 refine Hi ?_
 refine wpList_append_any _ rfl (.tmp 22) (.tmp 23) _ rfl w.heap.size 5 i0 _ 1 1 zU22 hi0 hz0 hzi1 hzi2 rfl (by decide) (.slice A 18 c) 18 (bcells (encB 1 aliveX)) rfl (World.ownsRow.alloc HOL.out _) (w4.heap.size + 1) (some ⟨w4.heap.size, 0, none⟩) 1 1 [.int .u8 0] rfl (reads_litO w4 5 _ [.int .u8 0]) (fun u hu => by simp at hu; subst hu; rfl) (by unfold maxLen; omega) (by omega) (by simp; omega) ?_
 intro v6 w6 hown6 hg6 hat6
 obtain ⟨A6, c6, rfl⟩ := slice_form hown6
 rw [HBCN.out] at hown6
 have hb5 : Below w4.heap.size w4 (w4.alloc (.cells #[.int .u8 0] 5)) := zT.alloc zR _
 have HB6 : Hid (Below w.heap.size w w6) := (HB4.out.trans (hb5.mono HB4.out.size)).grown hg6 (by simp; omega) (fun k hk => (HOL.out.lt k hk).1)
 have HR6 : Hid (ReqRow w6 w3.heap.size 1 aliveX cs) := ReqRow.mk' ((HR4.out.blk.below hb5 HR4.out.blk.lt).grown hg6 (fun h => by have := HO2.out.lt _ h.symm; omega)) HAT.out
 have HAT6 : Hid (At w6 (some w2.heap.size) aliveX cs) := ((HAT.out.later HB34.out).later hb5).window rfl (fun k hk hl => hg6.block k hl (fun h => by have := HO2.out.lt _ h.symm; omega))
 have HD := Hi (opDecode_of c6 19 A6 (encB 1 aliveX ++ [0]) w6 alive_typesB (Reads.of_own hown6) (own_capO hown6) (by omega) (fun h => (own_nil hown6 h).2) (HE1.out _ HB6.out))
 clear hown6 hg6 hat6 hb5
 go_wp2_with (first
  | (go_at_call 13
     refine HD.out.mono ?_
     rintro e w7 hd
     obtain ⟨hb7, rfl⟩ := dec_alive2 hd
     have HB7 := hidT HB6 hb7
     have HR7 := Hi (ReqRow.mk' (HR6.out.blk.below hb7 HR6.out.blk.lt) HAT.out)
     have HAT7 := Hi (HAT6.out.later hb7)
     clear hd hb7)
  | (with_reducible refine wpAt 6 ?_
     refine wpList_newrow rfl rfl 31 rfl 6 rfl (.tmp 26) rfl rfl (Oq31R1) (fun _ => rfl) (show 6 < 76 by decide) (by kernel_rfl) req_size (by simp [Value.oneCell']) ?_
     obtain ⟨w8, hnew⟩ : ∃ x, w7.alloc (.cells (Oq31R1) 31) = x := ⟨_, rfl⟩
     rw [hnew]
     have hbn := newB hnew
     have HB8 := hidT HB7 hbn
     have HR8 := Hi (ReqRow.mk' (HR7.out.blk.below hbn HR7.out.blk.lt) HAT.out)
     have hc1 := HR8.out.c0
     have hc2 : w8.cell? ⟨w3.heap.size, 2, none⟩ = some (.string ⟨#[47, 97]⟩) := HR8.out.cp
     have hc3 : w8.cell? ⟨w3.heap.size, 6, none⟩ = some (.int .i32 (-1)) := HR8.out.cv
     have HFL := Hi (flatten_of (HAT7.out.later hbn) alive_nodes fun W hW => HRX.out ((HAT7.out.later hbn).later hW) ((HE1.out _ HB8.out).below hW))
     clear hnew hbn)
  | (refine wpList_load_at (by rfl) 29 (.tmp 70) rfl ⟨w3.heap.size, 1, none⟩ rfl cs _ HR8.out.row zU29 rfl HI19.out ?_)
  | (go_at_call 15
     refine HFL.out.mono ?_
     rintro e w9 hl
     obtain ⟨hb9, A9, c9, rfl⟩ := list_alive hl
     have HB9 := hidT HB8 hb9
     clear hl hb9))
 go_ret
 exact ⟨rfl, HB9.out⟩
theorem alive_any (w : World) (E : Env w) : Calls Tryd.prog 8 #[] w fun e w' => e = .returned (.bool true) ∧ Below w.heap.size w w' := alive_of w E (fun h E => right_any h E alive_bulk) fun h => opPut_any h

theorem app0 {W w' : World} {lo : Option Nat} {b : Nat} {e : TypeId} {size bytes len : Nat} {s : Sl} {xs : List Value} {v : Value} (h : SlAt W lo e size bytes s len xs) (ho : w'.ownsRow b e size v (0 + s.n) ([] ++ xs)) : ∃ s' : Sl, v = .slice s'.A s'.n s'.c ∧ SlAt w' (some b) e size bytes s' len xs := by
 rw [Nat.zero_add, List.nil_append] at ho
 obtain ⟨A', c', rfl⟩ := slice_form ho
 exact ⟨⟨A', s.n, c'⟩, rfl, by rw [h.len]; exact SlAt.of_own ho h.reach⟩
theorem wpList_load1 {P : Program} {ops : Array Oper} {rest : List Oper} {o : Oper} {a : Act} {w : World} {Q : Exit → Act → World → Prop} (hgd : o.guard = none) (ty : TypeId) (x : Operand) (ho : o.op = .load ty x)
 (ad : Addr) (hx : a.eval x = .pointer (some ad)) {v : Value} (hc : w.cell? ad = some v) {d : TypeDesc} (hu : P.underlying ty = some d) (hd : (match d with | .struct _ | .array _ _ => false | _ => true) = true)
 (h : wpList P ops Q rest (a.put o.dst v) w) : wpList P ops Q (o :: rest) a w := wpList_step fun K hK => op_u hgd (r_load ty x ho hx hc hu hd) (hK _ _ h)
theorem FlatSt.lit (W : World) : FlatSt W.heap.size (.slice (some ⟨W.heap.size, 0, none⟩) 0 0) [] (W.alloc (.cells #[] 29)) :=
 ⟨World.ownsRow_made W #[] 0 zR (by decide) rfl, by simp, fun _ hr => by cases hr⟩

theorem cloneR_walk {lo : Option Nat} (f : OpF) (d a k0 k1 k2 k3 k4 i s : Sl) (Q : List (OpC × List Value)) (w : World) (ok : f.Ok) (h : FAt w lo f d a k0 k1 k2 k3 k4 i) (hs : SlAt w lo 29 19 296 s Q.length (Q.flatMap Prod.snd)) (hQ : ∀ q ∈ Q, At w lo q.1 q.2)
 (IH : ∀ q ∈ Q, ∀ W, Below w.heap.size w W → Calls Tryd.prog 18 #[.agg q.2.toArray] W (Cloned W q.1)) (cs : Array Value) (hcs : cs = (f.row d a k0 k1 k2 k3 k4 i s).toArray) :
 Calls Tryd.prog 18 #[.agg cs] w (Cloned w (.mk f (Q.map Prod.fst))) := by
 obtain ⟨sA, N, sc⟩ := s
 obtain ⟨w1, hw1⟩ := xa w cs 29
 have HW1 := Hi hw1.symm
 have hz1 : w1.heap.size = w.heap.size + 1 := by rw [← hw1]; simp
 have HCS : Hid (cs = (f.rowL d a [k0, k1, k2, k3, k4] i ⟨sA, N, sc⟩).toArray) := hcs
 have HD := Hi (fun W (hW : Below w.heap.size w W) => h.d.later hW)
 have HA := Hi (fun W (hW : Below w.heap.size w W) => h.a.later hW)
 have HI := Hi (fun W (hW : Below w.heap.size w W) => h.i.later hW)
 have HSL := Hi (fun W (hW : Below w.heap.size w W) => hs.later hW)
 have HKS : Hid (∀ j (hj : j < 5) W, Below w.heap.size w W → SlAt W lo 9 1 16 ([k0, k1, k2, k3, k4][j]'hj) (f.lists[j]'hj).length (strCells (f.lists[j]'hj))) := fun j hj W hW => by
  rcases (by omega : j = 0 ∨ j = 1 ∨ j = 2 ∨ j = 3 ∨ j = 4) with rfl | rfl | rfl | rfl | rfl
  · exact h.k0.later hW
  · exact h.k1.later hW
  · exact h.k2.later hW
  · exact h.k3.later hW
  · exact h.k4.later hW
 have HQ := Hi hQ
 have HIH := Hi IH
 have HOK := Hi ok
 have HSQ : Hid (Q.length = N) := hs.len
 have HREA : Hid (N * 296 ≤ reachBytes) := hs.reach
 have hrea : N * 296 ≤ 140737488355328 := hs.reach'
 clear hcs h hs hQ IH ok
 obtain ⟨ib, hib, hzb, hsb, hyb⟩ := info_parts u8O_info
 obtain ⟨ia, hia, hza, hsa, hya⟩ := info_parts acl_info
 obtain ⟨ii, hii, hzi, hsi, hyi⟩ := info_parts id_info
 obtain ⟨ik, hik, hzk, hsk, hyk⟩ := info_parts strO_info
 obtain ⟨io, hio, hzo, hso, hyo⟩ := info_parts op_info
 go_enter Tryd.func18, Tryd.ntmps18
 go_wp2_with (first
  | (refine wpList_new rfl 29 rfl zer_op ?_
     intro old hold
     obtain ⟨w2, hw2⟩ := xa w1 old 29
     rw [hw2]
     have HK2 : Hid (KSt w f d a [k0, k1, k2, k3, k4] i ⟨sA, N, sc⟩ w2) := (by unfold Hid; rw [← hw2, ← hw1]; exact KSt.start HCS.out rfl hold)
     clear hw2 hold)
  | (with_reducible refine wpAt 7 ?_
     obtain ⟨u3, hu⟩ : ∃ x, w2.alloc (.cells #[] 5) = x := ⟨_, rfl⟩
     rw [hu]
     have HBu := Hi (newB hu)
     have HOu : Hid (u3.ownsRow w2.heap.size 5 1 (.slice (some ⟨w2.heap.size, 0, none⟩) 0 0) 0 []) := (by unfold Hid; rw [← hu]; exact World.ownsRow_made w2 #[] 0 zR (by decide) rfl)
     have HSu := Hi (HD.out _ (HK2.out.below.trans (HBu.out.mono HK2.out.below.size)))
     have qu := (HK2.out.later HBu.out).c2
     clear hu)
  | (with_reducible refine wpAt 9 ?_
     refine wpList_append_any _ rfl (.tmp 6) (.tmp 8) _ rfl w2.heap.size 5 ib _ 1 1 zU22 hib hzb hsb hyb rfl (by decide) (.slice (some ⟨w2.heap.size, 0, none⟩) 0 0) 0 [] rfl HOu.out u3.heap.size d.A d.n d.c (bcells f.l) rfl HSu.out.reads (bcells_one _) (by have := HSu.out.le; have := HSu.out.cap; omega) (by rw [Nat.zero_add]; exact HSu.out.reach') HBu.out.size ?_
     intro v w3 ho hg hat
     obtain ⟨s1, rfl, hs'⟩ := app0 HSu.out ho
     have hb := HBu.out.grown hg HBu.out.size (fun k hk => by simp [Value.ownBlock] at hk; omega)
     have HN3 := Hi (hs'.lo HK2.out.size)
     have HK3 := Hi (HK2.out.later hb)
     clear hb hs' ho hg hat qu HBu HOu HSu)
  | (with_reducible refine wpSt 10 ?_
     refine wpList_store_mid rfl 22 (.tmp 10) (.tmp 9) rfl w.heap.size (2) (.slice s1.A s1.n s1.c) rfl rfl HK3.out.blk (news := [.slice s1.A s1.n s1.c]) rfl isz_22 (by rw [HK3.out.asize]; exact (by decide : 2 + 1 ≤ 19)) (by simp [Value.oneCell']) ?_
     intro wn4 cn hBn hxn hgn hzn
     have HK4 : Hid (KSt w f s1 a [k0, k1, k2, k3, k4] i ⟨sA, N, sc⟩ wn4) := HK3.out.put hBn hgn (hxn.trans rowL_d) HK3.out.len
     have HS1_4 := Hi (HN3.out.grown hgn (by omega))
     clear hBn hxn hgn hzn)
  | (with_reducible refine wpAt 12 ?_
     obtain ⟨u5, hu⟩ : ∃ x, wn4.alloc (.cells #[] 74) = x := ⟨_, rfl⟩
     rw [hu]
     have HBu := Hi (newB hu)
     have HOu : Hid (u5.ownsRow wn4.heap.size 74 3 (.slice (some ⟨wn4.heap.size, 0, none⟩) 0 0) 0 []) := (by unfold Hid; rw [← hu]; exact World.ownsRow_made wn4 #[] 0 zR (by decide) rfl)
     have HSu := Hi (HA.out _ (HK4.out.below.trans (HBu.out.mono HK4.out.below.size)))
     have qu := (HK4.out.later HBu.out).c3
     clear hu)
  | (with_reducible refine wpAt 14 ?_
     refine wpList_append_any _ rfl (.tmp 11) (.tmp 13) _ rfl wn4.heap.size 74 ia _ 3 40 zU23 hia hza hsa hya rfl (by decide) (.slice (some ⟨wn4.heap.size, 0, none⟩) 0 0) 0 [] rfl HOu.out u5.heap.size a.A a.n a.c (aclCells f.L) rfl HSu.out.reads (aclCells_one _) (by have := HSu.out.le; have := HSu.out.cap; omega) (by rw [Nat.zero_add]; exact HSu.out.reach') HBu.out.size ?_
     intro v w5 ho hg hat
     obtain ⟨s2, rfl, hs'⟩ := app0 HSu.out ho
     have hb := HBu.out.grown hg HBu.out.size (fun k hk => by simp [Value.ownBlock] at hk; omega)
     have HN5 := Hi (hs'.lo HK4.out.size)
     have HK5 := Hi (HK4.out.later hb)
     have HS1_5 := Hi (HS1_4.out.later hb)
     clear hb hs' ho hg hat qu HBu HOu HSu)
  | (with_reducible refine wpSt 15 ?_
     refine wpList_store_mid rfl 23 (.tmp 15) (.tmp 14) rfl w.heap.size (3) (.slice s2.A s2.n s2.c) rfl rfl HK5.out.blk (news := [.slice s2.A s2.n s2.c]) rfl isz_23 (by rw [HK5.out.asize]; exact (by decide : 3 + 1 ≤ 19)) (by simp [Value.oneCell']) ?_
     intro wn6 cn hBn hxn hgn hzn
     have HK6 : Hid (KSt w f s1 s2 [k0, k1, k2, k3, k4] i ⟨sA, N, sc⟩ wn6) := HK5.out.put hBn hgn (hxn.trans rowL_a) HK5.out.len
     have HS1_6 := Hi (HS1_5.out.grown hgn (by omega))
     have HS2_6 := Hi (HN5.out.grown hgn (by omega))
     clear hBn hxn hgn hzn)
  | (with_reducible refine wpAt 17 ?_
     obtain ⟨u7, hu⟩ : ∃ x, wn6.alloc (.cells #[] 72) = x := ⟨_, rfl⟩
     rw [hu]
     have HBu := Hi (newB hu)
     have HOu : Hid (u7.ownsRow wn6.heap.size 72 2 (.slice (some ⟨wn6.heap.size, 0, none⟩) 0 0) 0 []) := (by unfold Hid; rw [← hu]; exact World.ownsRow_made wn6 #[] 0 zR (by decide) rfl)
     have HSu := Hi (HI.out _ (HK6.out.below.trans (HBu.out.mono HK6.out.below.size)))
     have qu := (HK6.out.later HBu.out).c17
     clear hu)
  | (with_reducible refine wpAt 19 ?_
     refine wpList_append_any _ rfl (.tmp 16) (.tmp 18) _ rfl wn6.heap.size 72 ii _ 2 32 zU26 hii hzi hsi hyi rfl (by decide) (.slice (some ⟨wn6.heap.size, 0, none⟩) 0 0) 0 [] rfl HOu.out u7.heap.size i.A i.n i.c (idCells f.I) rfl HSu.out.reads (idCells_one _) (by have := HSu.out.le; have := HSu.out.cap; omega) (by rw [Nat.zero_add]; exact HSu.out.reach') HBu.out.size ?_
     intro v w7 ho hg hat
     obtain ⟨s3, rfl, hs'⟩ := app0 HSu.out ho
     have hb := HBu.out.grown hg HBu.out.size (fun k hk => by simp [Value.ownBlock] at hk; omega)
     have HN7 := Hi (hs'.lo HK6.out.size)
     have HK7 := Hi (HK6.out.later hb)
     have HS1_7 := Hi (HS1_6.out.later hb)
     have HS2_7 := Hi (HS2_6.out.later hb)
     clear hb hs' ho hg hat qu HBu HOu HSu)
  | (with_reducible refine wpSt 20 ?_
     refine wpList_store_mid rfl 26 (.tmp 20) (.tmp 19) rfl w.heap.size (17) (.slice s3.A s3.n s3.c) rfl rfl HK7.out.blk (news := [.slice s3.A s3.n s3.c]) rfl isz_26 (by rw [HK7.out.asize]; exact (by decide : 17 + 1 ≤ 19)) (by simp [Value.oneCell']) ?_
     intro wn8 cn hBn hxn hgn hzn
     have HK8 : Hid (KSt w f s1 s2 [k0, k1, k2, k3, k4] s3 ⟨sA, N, sc⟩ wn8) := HK7.out.put hBn hgn (hxn.trans (rowL_i HK7.out.len)) HK7.out.len
     have HS1_8 := Hi (HS1_7.out.grown hgn (by omega))
     have HS2_8 := Hi (HS2_7.out.grown hgn (by omega))
     have HS3_8 := Hi (HN7.out.grown hgn (by omega))
     clear hBn hxn hgn hzn))
 clear HK2 HK3 HK4 HK5 HK6 HK7 HD HA HI HS1_4 HS1_5 HS1_6 HS1_7 HS2_6 HS2_7 HN3 HN5 HN7
 go_loopw [3] (fun v3 wr => ∃ (j : Nat) (ks : List Sl), j ≤ 5 ∧ v3 = .int .i64 (j : Int) ∧ Hid (KSt w f s1 s2 ks s3 ⟨sA, N, sc⟩ wr) ∧ Hid (KLs w f [k0, k1, k2, k3, k4] ks j wr) ∧ Hid (SlAt wr (some (w.heap.size + 2)) 5 1 1 s1 f.l.length (bcells f.l)) ∧ Hid (SlAt wr (some (w.heap.size + 2)) 74 3 40 s2 f.L.length (aclCells f.L)) ∧ Hid (SlAt wr (some (w.heap.size + 2)) 72 2 32 s3 f.I.length (idCells f.I))) (fun v3 _ => 5 - (intOf v3).toNat)
 case atStart => exact ⟨0, [k0, k1, k2, k3, k4], by omega, rfl, HK8.out, ⟨fun z _ _ hz => absurd hz (by omega), fun z _ => rfl⟩, HS1_8.out, HS2_8.out, HS3_8.out⟩
 case round =>
  clear HK8 HS1_8 HS2_8 HS3_8
  obtain ⟨j, ks, hj, rfl, HK9, HL9, HS1_9, HS2_9, HS3_9⟩ := hrel
  by_cases hlt : j < 5
  · have hjl : j < ks.length := by rw [HK9.out.len]; exact hlt
    obtain ⟨kj, hkj⟩ : ∃ k, k = ([k0, k1, k2, k3, k4][j]'hlt) := ⟨_, rfl⟩
    have hkk : ks[j] = kj := by
     have := HL9.out.2 j zR
     rw [List.getElem?_eq_getElem hjl, List.getElem?_eq_getElem hlt, ← hkj] at this
     injection this
    have HCK : Hid (∀ {u}, KSt w f s1 s2 ks s3 ⟨sA, N, sc⟩ u → u.cell? ⟨w.heap.size, 11 + j, none⟩ = some (.slice kj.A kj.n kj.c)) := fun h => (h.ck hjl).trans (by rw [hkk]; rfl)
    have HKJ : Hid (∀ W, Below w.heap.size w W → SlAt W lo 9 1 16 kj (f.lists[j]'hlt).length (strCells (f.lists[j]'hlt))) := by
     unfold Hid
     rw [hkj]
     exact HKS.out j hlt
    clear hkj hkk hjl
    go_wp2_with (first
     | (with_reducible refine wpAt 28 ?_
        obtain ⟨u9, hu⟩ : ∃ x, wr.alloc (.cells #[] 9) = x := ⟨_, rfl⟩
        rw [hu]
        have HBu := Hi (newB hu)
        have HOu : Hid (u9.ownsRow wr.heap.size 9 1 (.slice (some ⟨wr.heap.size, 0, none⟩) 0 0) 0 []) := (by unfold Hid; rw [← hu]; exact World.ownsRow_made wr #[] 0 zR (by decide) rfl)
        have HSu := Hi (HKJ.out _ (HK9.out.below.trans (HBu.out.mono HK9.out.below.size)))
        have qu := HCK.out (HK9.out.later HBu.out)
        clear hu)
     | (with_reducible refine wpAt 30 ?_
        refine wpList_load1 rfl 24 (.tmp 29) rfl ⟨w.heap.size, 11 + j, none⟩ rfl qu zU24 rfl ?_)
     | (with_reducible refine wpAt 31 ?_
        refine wpList_append_any _ rfl (.tmp 26) (.tmp 30) _ rfl wr.heap.size 9 ik _ 1 16 zU24 hik hzk hsk hyk rfl (by decide) (.slice (some ⟨wr.heap.size, 0, none⟩) 0 0) 0 [] rfl HOu.out u9.heap.size kj.A kj.n kj.c (strCells (f.lists[j]'hlt)) rfl HSu.out.reads (strCells_one _) (by have := HSu.out.le; have := HSu.out.cap; omega) (by rw [Nat.zero_add]; exact HSu.out.reach') HBu.out.size ?_
        intro v w9 ho hg hat
        obtain ⟨k', rfl, hs'⟩ := app0 HSu.out ho
        have hb := HBu.out.grown hg HBu.out.size (fun k hk => by simp [Value.ownBlock] at hk; omega)
        have HN10 := Hi (hs'.lo HK9.out.size)
        have HK10 := Hi (HK9.out.later hb)
        have HL10 := Hi (HL9.out.later hb)
        have HS1_10 := Hi (HS1_9.out.later hb)
        have HS2_10 := Hi (HS2_9.out.later hb)
        have HS3_10 := Hi (HS3_9.out.later hb)
        clear hb hs' ho hg hat qu HBu HOu HSu)
     | (with_reducible refine wpSt 33 ?_
        refine wpList_store_mid rfl 24 (.tmp 33) (.tmp 31) rfl w.heap.size (11 + j) (.slice k'.A k'.n k'.c) rfl rfl HK10.out.blk (news := [.slice k'.A k'.n k'.c]) rfl isz_24 (by rw [HK10.out.asize]; show 11 + j + 1 ≤ 19; omega) (by simp [Value.oneCell']) ?_
        intro wn11 cn hBn hxn hgn hzn
        have HK11 : Hid (KSt w f s1 s2 (ks.set j k') s3 ⟨sA, N, sc⟩ wn11) := HK10.out.put hBn hgn (hxn.trans (rowL_k HK10.out.len hlt)) (by rw [List.length_set]; exact HK10.out.len)
        have HS1_11 := Hi (HS1_10.out.grown hgn (by omega))
        have HS2_11 := Hi (HS2_10.out.grown hgn (by omega))
        have HS3_11 := Hi (HS3_10.out.grown hgn (by omega))
        have HL11 : Hid (KLs w f [k0, k1, k2, k3, k4] (ks.set j k') (j + 1) wn11) := (HL10.out.grown hgn (by omega)).set hlt (HN10.out.grown hgn (by omega))
        clear hBn hxn hgn hzn))
    go_roundw
    case rel => exact ⟨j + 1, ks.set j k', by omega, by go_num, HK11.out, HL11.out, HS1_11.out, HS2_11.out, HS3_11.out⟩
    case measure => simp [intOf]; omega
  · obtain rfl : j = 5 := by omega
    obtain ⟨m0, m1, m2, m3, m4, hks⟩ := list5 HK9.out.len
    subst hks
    clear hlt hj HKS
    obtain ⟨u8, rfl⟩ : ∃ v, v = wr := ⟨_, rfl⟩
    rw [show ((5 : Nat) : Int) = 5 from rfl]
    go_wp2
    go_loopw [4, 5] (fun v4 v5 wr => ∃ (j : Nat) (A4 : Option Addr) (c4 : Nat) (R : List (OpC × List Value)), j ≤ N ∧ v4 = .slice A4 j c4 ∧ v5 = .int .i64 (j : Int) ∧ Hid (R.length = j) ∧ Hid (R.map Prod.fst = (Q.take j).map Prod.fst) ∧ Hid (FlatSt u8.heap.size (.slice A4 j c4) R wr) ∧ Hid (Below u8.heap.size u8 wr)) (fun _ v5 _ => N - (intOf v5).toNat)
    case atStart => exact ⟨0, _, _, [], by omega, rfl, rfl, rfl, rfl, FlatSt.lit u8, zT.alloc zR _⟩
    case round =>
     obtain ⟨j, A4, c4, R, hj, rfl, rfl, HRL, HRM, HF, HB⟩ := hrel
     have HKw := Hi (HK9.out.later HB.out)
     have q18 := HKw.out.c18
     dsimp only at q18
     by_cases hlt : j < N
     · have hjQ : j < Q.length := by rw [HSQ.out]; exact hlt
       have hrd := (HSL.out _ HKw.out.below).reads
       obtain ⟨ad, hA, hrow⟩ := rowAt hrd HQ.out hjQ HSQ.out
       dsimp only at hA
       subst hA
       have hih := HIH.out (Q[j]) (List.getElem_mem _)
       have hmx : (Q.take (j + 1)).map Prod.fst = (Q.take j).map Prod.fst ++ [(Q[j]).1] := by
        rw [List.take_succ_eq_append_getElem hjQ, List.map_append]; rfl
       obtain ⟨⟨x, xc⟩, hx⟩ : ∃ x, x = Q[j] := ⟨_, rfl⟩
       rw [← hx] at hrow hih hmx
       dsimp only at hrow hih hmx
       have HMX := Hi hmx
       have HROW := Hi hrow
       have HIX := Hi hih
       have HOL : Hid (∀ g, (Value.slice A4 j c4).ownBlock = some g → g < wr.heap.size) := fun g hg => HF.out.lt hg
       clear hx hrow hih hmx hjQ hrd
       go_wp2_with (first
        | (refine wpList_load_at (by rfl) 29 (.tmp 46) rfl (ad.add (j * 19)) rfl xc _ HROW.out.cells zU29 rfl HROW.out.info ?_)
        | (go_at_call 18
           refine (HIX.out _ HKw.out.below).mono ?_
           rintro e w5 ⟨rc, rfl, hrc, hb5⟩
           have HRC := Hi hrc
           have HF5 := Hi (HF.out.later hb5)
           have HB5 := Hi (HB.out.trans (hb5.mono HF.out.bs))
           have HRS : Hid ((Value.agg rc.toArray).cells.size = 19) := (by unfold Hid; show rc.toArray.size = 19; rw [zO, hrc.len])
           clear hb5 hrc)
        | (refine wpList_build1 rfl 27 29 (.tmp 48) rfl (.agg rc.toArray) rfl 19 zU27 isz_29 zer_op (by decide) HRS.out ?_
           obtain ⟨w6, hw6⟩ := xa w5 (rc.toArray) 29
           have hc6 : (Value.agg rc.toArray).cells = rc.toArray := rfl
           rw [hc6, hw6]
           have hb6 := newB hw6
           have hn6 := newK hw6
           have HF6 := Hi (HF5.out.later hb6)
           have HB6 := Hi (HB5.out.trans (hb6.mono HF5.out.bs))
           have HW6 : Hid (Win w6 wr.heap.size w6.heap.size x rc) := Win.new (HRC.out.later hb6)
           have HR6 : Hid (Reads w6 w6.heap.size 19 (some ⟨w5.heap.size, 0, none⟩) 1 rc) := ⟨(by rw [HRC.out.len]), fun _ => ⟨⟨w5.heap.size, 0, none⟩, rfl, hn6.lt, fun j u hj => (by rw [zN, Nat.zero_add, hn6.cell]; simpa using hj)⟩⟩
           have HO6 : Hid (∀ u ∈ rc, u.oneCell' = true) := fun v hv => (by
            have := HRC.out.one
            rw [zQ] at this
            exact this v (by simpa using hv))
           have HOW : Hid (w6.ownsRow u8.heap.size 29 19 (.slice A4 j c4) j (R.flatMap Prod.snd)) := (by unfold Hid; have := HF6.out.own; rwa [HRL.out] at this)
           clear hw6 hc6 hb6 hn6)
        | (with_reducible refine wpAt 50 ?_
           refine wpList_append_any _ rfl (.tmp 42) (.tmp 49) _ rfl u8.heap.size 29 io _ 19 296 zU27 hio hzo hso hyo rfl (by decide) (.slice A4 j c4) j (R.flatMap Prod.snd) rfl HOW.out w6.heap.size (some ⟨w5.heap.size, 0, none⟩) 1 1 rc rfl HR6.out HO6.out (by unfold maxLen; omega) (by omega) HF6.out.bs ?_
           intro v7 w7 ho hg hat
           obtain ⟨A7, c7, rfl⟩ := slice_form ho
           have HF7 : Hid (FlatSt u8.heap.size (.slice A7 (j + 1) c7) (R ++ [(x, rc)]) w7) := HF6.out.snoc (r := (x, rc)) HW6.out HF.out.bs HOL.out (by rw [HRL.out]; exact ho) hg hat
           have HB7 : Hid (Below u8.heap.size u8 w7) := HB6.out.grown hg HF6.out.bs (fun k hk => (HOW.out.lt k hk).1)
           clear ho hg hat))
       go_roundw
       case rel => exact ⟨j + 1, A7, c7, R ++ [(x, rc)], by omega, rfl, by go_num, by unfold Hid; rw [zG, HRL.out]; rfl, by unfold Hid; rw [List.map_append, HRM.out, HMX.out]; rfl, HF7.out, HB7.out⟩
       case measure => simp [intOf]; omega
     · obtain rfl : j = N := by omega
       have HRQ : Hid (R.map Prod.fst = Q.map Prod.fst) := by unfold Hid; rw [HRM.out, List.take_of_length_le (by rw [HSQ.out]; exact Nat.le_refl _)]
       clear hlt hj HRM HIH HSL
       obtain ⟨s4, hs4⟩ : ∃ s : Sl, s = ⟨A4, j, c4⟩ := ⟨_, rfl⟩
       have hv4 : Value.slice A4 j c4 = .slice s4.A s4.n s4.c := by rw [hs4]
       have hfa : SlAt wr (some u8.heap.size) 29 19 296 s4 R.length (R.flatMap Prod.snd) ∧ ∀ q ∈ R, At wr (some u8.heap.size) q.1 q.2 := by
        have h1 := HF.out
        obtain rfl := HRL.out
        rw [hs4]
        exact h1.at_ HREA.out
       have HN9 := Hi (hfa.1.lo HK9.out.size)
       have HE9 : Hid (∀ q ∈ R, At wr (some (w.heap.size + 2)) q.1 q.2) := fun q hq => (hfa.2 q hq).lo rfl HK9.out.size
       have HLw := Hi (HL9.out.later HB.out)
       have HS1w := Hi (HS1_9.out.later HB.out)
       have HS2w := Hi (HS2_9.out.later HB.out)
       have HS3w := Hi (HS3_9.out.later HB.out)
       rw [hv4]
       clear hv4 hs4 hfa HK9 HL9 HS1_9 HS2_9 HS3_9 HF HRL
       go_wp2_with (first
        | (with_reducible refine wpSt 52 ?_
           refine wpList_store_mid rfl 27 (.tmp 52) (.tmp 51) rfl w.heap.size 18 (.slice s4.A s4.n s4.c) rfl rfl HKw.out.blk (news := [.slice s4.A s4.n s4.c]) rfl isz_27 (by rw [HKw.out.asize]; exact (by decide : 18 + 1 ≤ 19)) (by simp [Value.oneCell']) ?_
           intro wn cn hBn hxn hgn hzn
           have HKt : Hid (KSt w f s1 s2 [m0, m1, m2, m3, m4] s3 s4 wn) := HKw.out.put hBn hgn (hxn.trans (rowL_s HKw.out.len)) HKw.out.len
           have HLt := Hi (HLw.out.grown hgn (by omega))
           have HS1t := Hi (HS1w.out.grown hgn (by omega))
           have HS2t := Hi (HS2w.out.grown hgn (by omega))
           have HS3t := Hi (HS3w.out.grown hgn (by omega))
           have HS4t := Hi (HN9.out.grown hgn (by omega))
           have HEt : Hid (∀ q ∈ R, At wn (some (w.heap.size + 2)) q.1 q.2) := fun q hq => (HE9.out q hq).grown rfl hgn (by omega)
           clear hBn hxn hgn hzn
           refine Hid.out ?_))
       have HAT : Hid (At wn (some (w.heap.size + 2)) (.mk f (Q.map Prod.fst)) (f.rowL s1 s2 [m0, m1, m2, m3, m4] s3 s4)) := clone_end HOK.out HLt.out HS1t.out HS2t.out HS3t.out HS4t.out HEt.out HRQ.out
       clear HKw HLw HS1w HS2w HS3w HS1t HS2t HS3t HS4t HEt HLt HN9 HE9
       obtain ⟨zr, hz1', hz2'⟩ := HKt.out.res
       have HZR := Hi hz1'
       have hzs : zr.size = 19 := hz2'
       have HINF : Hid ((Tryd.prog.info? 29).map (·.size) = some (f.rowL s1 s2 [m0, m1, m2, m3, m4] s3 s4).toArray.size) := by unfold Hid; rw [HKt.out.asize]; exact isz_29
       have HZS : Hid (zr.size = (f.rowL s1 s2 [m0, m1, m2, m3, m4] s3 s4).toArray.size) := by unfold Hid; rw [HKt.out.asize]; exact hzs
       clear hz1' hz2' hzs
       refine Hi ?_
       go_wp2_with (first
        | (refine wpList_load_row rfl 29 (.tmp 1) rfl w.heap.size rfl 29 _ _ _ HKt.out.blk zU29 rfl HINF.out ?_)
        | (refine wpList_store_row rfl 29 (.tmp 2) (.tmp 53) rfl (w.heap.size + 1) _ rfl rfl 29 _ HZR.out HINF.out HZS.out (rowL_one rfl) ?_
           generalize hww : World.setRow _ _ _ = wz
           have HGZ : Hid (wn.grownBy wz (some (w.heap.size + 1))) := (by unfold Hid; rw [← hww]; exact only_setRow' _ _ _)
           have HBZ : Hid (Blk wz (w.heap.size + 1) 29 (f.rowL s1 s2 [m0, m1, m2, m3, m4] s3 s4).toArray) := (by unfold Hid; rw [← hww]; exact cells_setRow HZR.out)
           clear hww))
       refine bodyPost_ret (results_cell_row rfl _ _ (w.heap.size + 1) 29 _ _ _ rfl HBZ.out zU29 rfl HINF.out) rfl ?_
       exact ⟨_, rfl, (HAT.out.grown rfl HGZ.out (by omega)).lo rfl (by omega), HKt.out.below.grown HGZ.out (by have := HKt.out.size; omega) (fun k hk => by injection hk with hk; omega)⟩
theorem refClone_any {w : World} {lo : Option Nat} {x : OpC} {cs : List Value} (h : At w lo x cs) : ∀ W, Below w.heap.size w W → Calls Tryd.prog 18 #[.agg cs.toArray] W (Cloned W x) := by
 induction h with
 | mk f d a k0 k1 k2 k3 k4 i s Q ok hd ha hk0 hk1 hk2 hk3 hk4 hi hs hQ ih =>
   intro W hW
   exact cloneR_walk f d a k0 k1 k2 k3 k4 i s Q W ok ⟨hd.later hW, ha.later hW, hk0.later hW, hk1.later hW, hk2.later hW, hk3.later hW, hk4.later hW, hi.later hW⟩ (hs.later hW) (fun q hq => (hQ q hq).later hW) (fun q hq W' hW' => ih q hq W' (hW.trans (hW'.mono hW.size))) _ rfl

theorem strCells_map (L : List ByteArray) : strCells L = L.map Value.string := by
 unfold strCells
 induction L with
 | nil => rfl
 | cons x r ih => rw [List.flatMap_cons, ih]; rfl

def LikeV : Value → Value → Prop
 | .int k _, v => ∃ b, v = .int k b
 | .string _, v => ∃ s, v = .string s
 | u, v => v = u
theorem LikeV.refl : ∀ v, LikeV v v := fun v => by cases v <;> first | exact ⟨_, rfl⟩ | exact rfl
theorem LikeV.trans {u v x : Value} (h : LikeV u v) (h' : LikeV v x) : LikeV u x := by
 cases u <;> first
  | (obtain ⟨b, rfl⟩ := h; exact h')
  | (obtain rfl := h; exact h')
theorem LikeV.slice {A : Option Addr} {n c : Nat} {v : Value} (h : LikeV (.slice A n c) v) : v = .slice A n c := h
theorem LikeV.one {u v : Value} (h : LikeV u v) (h1 : u.oneCell' = true) : v.oneCell' = true := by
 cases u <;> first
  | (obtain ⟨b, rfl⟩ := h; rfl)
  | (obtain rfl := h; exact h1)
structure SplB (b : Nat) (w w' : World) : Prop where
 below : Below b w w'
 cells : ∀ (g : Nat) (t : TypeId) (cs : Array Value), Blk w g t cs → ∃ cs', Blk w' g t cs' ∧ cs'.size = cs.size ∧ ∀ (j : Nat) (v : Value), cs[j]? = some v → ∃ v', cs'[j]? = some v' ∧ LikeV v v'
section
variable {b : Nat} {w w1 w2 : World}
theorem SplB.refl (b : Nat) (w : World) : SplB b w w := ⟨Below.refl _ _, fun g t cs h => ⟨cs, h, rfl, fun j v hv => ⟨v, hv, LikeV.refl v⟩⟩⟩
theorem SplB.trans (h : SplB b w w1) (h' : SplB b w1 w2) : SplB b w w2 := ⟨h.below.trans h'.below, fun g t cs hB => by
 obtain ⟨c1, k1, k2, k3⟩ := h.cells g t cs hB
 obtain ⟨c2, m1, m2, m3⟩ := h'.cells g t c1 k1
 refine ⟨c2, m1, m2.trans k2, fun j v hv => ?_⟩
 obtain ⟨v1, e1, l1⟩ := k3 j v hv
 obtain ⟨v2, e2, l2⟩ := m3 j v1 e1
 exact ⟨v2, e2, l1.trans l2⟩⟩
theorem SplB.of_below (h : Below w.heap.size w w1) (hb : b ≤ w.heap.size) : SplB b w w1 := ⟨h.mono hb, fun g t cs hB => ⟨cs, hB.below h hB.lt, rfl, fun j v hv => ⟨v, hv, LikeV.refl v⟩⟩⟩
theorem SplB.cell (h : SplB b w w1) {g : Nat} {t : TypeId} {cs : Array Value} (hB : Blk w g t cs) {j : Nat} {v : Value} (hv : cs[j]? = some v) : ∃ v', w1.cell? ⟨g, j, none⟩ = some v' ∧ LikeV v v' := by
 obtain ⟨c1, k1, _, k3⟩ := h.cells g t cs hB
 obtain ⟨v', e, l⟩ := k3 j v hv
 exact ⟨v', (k1.cell j).trans e, l⟩
theorem SplB.head (h : SplB b w w1) {g : Nat} {t : TypeId} {cs : Array Value} (hB : Blk w g t cs) {j : Nat} {A : Option Addr} {n c : Nat} (hv : cs[j]? = some (.slice A n c)) : w1.cell? ⟨g, j, none⟩ = some (.slice A n c) := by
 obtain ⟨v', e, l⟩ := h.cell hB hv
 rw [e, LikeV.slice l]
theorem SplB.set (h : SplB b w w1) {g : Nat} {t : TypeId} {cs : Array Value} (hB : Blk w g t cs) {j : Nat} {v : Value} (hv : cs[j]? = some v) (hg : b ≤ g) {x : Value} (hx : LikeV v x) : SplB b w (w1.setCell ⟨g, j, none⟩ x) := by
 refine h.trans ⟨Below.setCell zT hg x, fun g' t' cs' hB' => ?_⟩
 obtain ⟨c1, k1, _, k3⟩ := h.cells g t cs hB
 obtain ⟨v1, e1, l1⟩ := k3 j v hv
 by_cases he : g' = g
 · subst he
   unfold Blk at k1 hB'
   rw [k1] at hB'
   injection hB' with hB'
   injection hB' with h1 h2
   subst h1
   subst h2
   refine ⟨_, Blk.set_ (show Blk w1 g' t c1 from k1) j x, by simp, fun i u hu => ?_⟩
   rw [Array.getElem?_setIfInBounds]
   by_cases hij : j = i
   · subst hij
     have hlt : j < c1.size := (Array.getElem?_eq_some_iff.1 hu).1
     rw [if_pos rfl, if_pos hlt]
     refine ⟨x, rfl, ?_⟩
     rw [e1] at hu
     injection hu with hu
     subst hu
     cases v <;> first
      | (obtain ⟨b1, rfl⟩ := l1; obtain ⟨b2, rfl⟩ := hx; exact ⟨_, rfl⟩)
      | (obtain rfl := l1; exact hx)
   · rw [if_neg hij]
     exact ⟨u, hu, LikeV.refl u⟩
 · exact ⟨cs', hB'.far he x, rfl, fun i u hu => ⟨u, hu, LikeV.refl u⟩⟩
theorem SplB.mid (h : SplB b w w1) {g : Nat} {t : TypeId} {c1 c2 : Array Value} {k : Nat} {v x : Value} (hB1 : Blk w1 g t c1) (hB2 : Blk w2 g t c2) (hg : b ≤ g) (hw : w1.grownBy w2 (some g)) (hc : c2.toList = c1.toList.take k ++ [x] ++ c1.toList.drop (k + 1)) (hv : c1[k]? = some v) (hx : LikeV v x) : SplB b w w2 := by
 have hlt : k < c1.size := (Array.getElem?_eq_some_iff.1 hv).1
 have he : c2 = c1.setIfInBounds k x := by
  apply Array.toList_inj.1
  rw [hc, Array.toList_setIfInBounds, List.set_eq_take_append_cons_drop, if_pos (by simpa using hlt)]
  simp
 refine h.trans ⟨(Below.refl b w1).grown hw (Nat.le_trans hg (Nat.le_of_lt hB1.lt)) (fun y hy => by injection hy with hy; omega), fun g' t' cs' hB' => ?_⟩
 by_cases hgg : g' = g
 · subst hgg
   unfold Blk at hB1 hB'
   rw [hB1] at hB'
   injection hB' with hB'
   injection hB' with h1 h2
   subst h1
   subst h2
   refine ⟨c2, hB2, by rw [he]; simp, fun i u hu => ?_⟩
   rw [he, Array.getElem?_setIfInBounds]
   by_cases hij : k = i
   · subst hij
     rw [if_pos rfl, if_pos hlt]
     rw [hv] at hu
     injection hu with hu
     subst hu
     exact ⟨x, rfl, hx⟩
   · rw [if_neg hij]
     exact ⟨u, hu, LikeV.refl u⟩
 · exact ⟨cs', hB'.grown hw (fun e => hgg (by injection e)), rfl, fun i u hu => ⟨u, hu, LikeV.refl u⟩⟩
end
theorem spl_at {b : Nat} {w w1 : World} {e : TypeId} {size bytes len : Nat} {s : Sl} {xs : List Value} (h : SlAt w (some b) e size bytes s len xs) (hs : SplB b w w1) (hn : 0 < s.n) : ∃ g cs, s.A = some ⟨g, 0, none⟩ ∧ b ≤ g ∧ Blk w g e cs ∧ ∀ (j : Nat) (v : Value), xs[j]? = some v → cs[j]? = some v := by
 have ho := h.own b rfl
 rcases ho.2 with ⟨h1, h2⟩ | ⟨g, cap, cur, h1, h2, h3, h4⟩
 · unfold Sl.v at h1
   injection h1 with h1 h5
   omega
 · unfold Sl.v at h1
   injection h1 with h1
   refine ⟨g, cur, h1, h2, h3, fun j v hv => ?_⟩
   have hr := h.reads
   obtain ⟨a, ha, _, hc⟩ := hr.2 hn
   rw [h1] at ha
   injection ha with ha
   subst ha
   have := hc j v hv
   rw [zN, Nat.zero_add, (show Blk w g e cur from h3).cell j] at this
   exact this
theorem spl_cell {b : Nat} {w0 w1 wr : World} {e : TypeId} {size bytes len : Nat} {s : Sl} {xs : List Value} (h01 : SplB b w0 w1) (h : SlAt w0 (some b) e size bytes s len xs) (hn : 0 < s.n) (hwr : SplB b w1 wr) {j : Nat} {v : Value} (hv : xs[j]? = some v) :
 ∃ g, s.A = some ⟨g, 0, none⟩ ∧ (∃ v', wr.cell? ⟨g, j, none⟩ = some v' ∧ LikeV v v') ∧ wr.frozen? ⟨g, j, none⟩ = false ∧ ∀ x, LikeV v x → SplB b w1 (wr.setCell ⟨g, j, none⟩ x) := by
 obtain ⟨g, c0, hA, hbg, hblk, hcs⟩ := spl_at h (SplB.refl _ _) hn
 obtain ⟨c1, hb1, hz1, h1⟩ := h01.cells g _ c0 hblk
 obtain ⟨v1, hv1, l1⟩ := h1 j v (hcs j v hv)
 obtain ⟨v2, hc2, l2⟩ := hwr.cell hb1 hv1
 obtain ⟨c2, hb2, _, _⟩ := hwr.cells g _ c1 hb1
 refine ⟨g, hA, ⟨v2, hc2, l1.trans l2⟩, hb2.frozen j, fun x hx => hwr.set hb1 hv1 hbg ?_⟩
 cases v <;> first
  | (obtain ⟨b1, rfl⟩ := l1; obtain ⟨b2, rfl⟩ := hx; exact ⟨_, rfl⟩)
  | (obtain rfl := l1; exact hx)
def LikeL (cs cs' : List Value) : Prop := cs'.length = cs.length ∧ ∀ (j : Nat) (v : Value), cs[j]? = some v → ∃ v', cs'[j]? = some v' ∧ LikeV v v'
theorem spl_row {b : Nat} {w0 wr : World} {bytes : Nat} {s : Sl} {Q : List (OpC × List Value)} (h : SlAt w0 (some b) 29 19 bytes s Q.length (Q.flatMap Prod.snd)) (hl : ∀ q ∈ Q, q.2.length = 19) (hwr : SplB b w0 wr) {k : Nat} (hk : k < Q.length) :
 ∃ g cs', s.A = some ⟨g, 0, none⟩ ∧ LikeL (Q[k]).2 cs' ∧ ∀ (j : Nat) (v : Value), cs'[j]? = some v → wr.cell? ((⟨g, k * 19, none⟩ : Addr).add j) = some v := by
 obtain ⟨g, c0, hA, hbg, hblk, hcs⟩ := spl_at h (SplB.refl _ _) (by have := h.len; omega)
 obtain ⟨c1, hb1, hz1, h1⟩ := hwr.cells g _ c0 hblk
 have hq := hl _ (List.getElem_mem hk)
 have hcell : ∀ (j : Nat) (v : Value), (Q[k]).2[j]? = some v → ∃ v', c1[k * 19 + j]? = some v' ∧ LikeV v v' := fun j v hv => by
  have hj : j < 19 := by
   have := (List.getElem?_eq_some_iff.1 hv).1
   omega
  exact h1 _ v (hcs _ v (by rw [subs_row Q hl k hk j hj]; exact hv))
 have hsz : k * 19 + 19 ≤ c1.size := by
  obtain ⟨v', hv', _⟩ := hcell 18 (Q[k]).2[18] (List.getElem?_eq_getElem (by omega))
  have := (Array.getElem?_eq_some_iff.1 hv').1
  omega
 have hget : ∀ j, j < 19 → ((c1.toList.drop (k * 19)).take 19)[j]? = c1[k * 19 + j]? := fun j hj => by
  rw [List.getElem?_take, if_pos hj, List.getElem?_drop, Array.getElem?_toList]
 refine ⟨g, (c1.toList.drop (k * 19)).take 19, hA, ⟨by rw [List.length_take, List.length_drop, Array.length_toList, hq]; omega, fun j v hv => ?_⟩, fun j v hv => ?_⟩
 · have hj : j < 19 := by
    have := (List.getElem?_eq_some_iff.1 hv).1
    omega
   rw [hget j hj]
   exact hcell j v hv
 · have hj : j < 19 := by
    have := (List.getElem?_eq_some_iff.1 hv).1
    rw [List.length_take] at this
    omega
   rw [hget j hj] at hv
   rw [zN, hb1.cell]
   exact hv
end Go.Proofs.YtpjjnmdfgcfnmaaDoor
