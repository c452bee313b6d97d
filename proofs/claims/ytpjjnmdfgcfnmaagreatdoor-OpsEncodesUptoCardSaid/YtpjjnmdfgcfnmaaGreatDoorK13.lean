/- Part 13 of a proof: lemmas and walks. -/
import Derived.Test.YtpjjnmdfgcfnmaaGreatDoorK12
import Derived.Test.YtpjjnmdfgcfnmaaGreatDoorK9
import Derived.Test.YtpjjnmdfgcfnmaaGreatDoorK10
import Derived.Test.YtpjjnmdfgcfnmaaGreatDoorK11
set_option linter.unusedVariables false
set_option linter.unusedSimpArgs false
set_option maxRecDepth 100000
set_option maxHeartbeats 4000000
namespace Go.Proofs.YtpjjnmdfgcfnmaaGreatDoor
open Go.RowKit

theorem isz_five : (Tryz.prog.info? 25).map (·.size) = some 5 := by kernel_rfl
theorem put_none {w0 w : World} {lo : Option Nat} (f : OpF) (d a k0 k1 k2 k3 k4 i s : Sl) (base g : Nat) (v : Value) (l : List UInt8) (ht : f.t ∉ ([1, 15, 19, 21, 2, 13, 5, 7, 120, 121, 6, 9, 103, 104, 3, 4, 8, 12, 101, 106, 18, -10, 14, 22] : List Int)) (h : FAt w0 lo f d a k0 k1 k2 k3 k4 i) (hw : w0.heap.size ≤ base) (hg : base ≤ g) (hb0 : Below w0.heap.size w0 w) (hv : Wr w base g v l) (hbase : base ≤ w.heap.size) (hsz : l.length + (fldB f).length + 64 ≤ 140737488355328) :
 Calls Tryz.prog 23 #[.pointer (some ⟨g, 0, none⟩), .agg (f.row d a k0 k1 k2 k3 k4 i s).toArray] w fun e w' => e = .returned (.tuple #[]) ∧ ∃ v', Wrote base g v v' l (fldB f) w w' := by
 simp only [zH, zI, or_false, not_or] at ht
 have hfb : fldB f = [] := by unfold fldB; simp [ht]
 rw [hfb]
 clear hfb hsz
 obtain ⟨n0, n1, n2, n3, n4, n5, n6, n7, n8, n9, n10, n11, n12, n13, n14, n15, n16, n17, n18, n19, n20, n21, n22, n23⟩ := ht
 have e0 : (f.t == 1) = false := by simpa using n0
 have e1 : (f.t == 15) = false := by simpa using n1
 have e2 : (f.t == 19) = false := by simpa using n2
 have e3 : (f.t == 21) = false := by simpa using n3
 have e4 : (f.t == 2) = false := by simpa using n4
 have e5 : (f.t == 13) = false := by simpa using n5
 have e6 : (f.t == 5) = false := by simpa using n6
 have e7 : (f.t == 7) = false := by simpa using n7
 have e8 : (f.t == 120) = false := by simpa using n8
 have e9 : (f.t == 121) = false := by simpa using n9
 have e10 : (f.t == 6) = false := by simpa using n10
 have e11 : (f.t == 9) = false := by simpa using n11
 have e12 : (f.t == 103) = false := by simpa using n12
 have e13 : (f.t == 104) = false := by simpa using n13
 have e14 : (f.t == 3) = false := by simpa using n14
 have e15 : (f.t == 4) = false := by simpa using n15
 have e16 : (f.t == 8) = false := by simpa using n16
 have e17 : (f.t == 12) = false := by simpa using n17
 have e18 : (f.t == 101) = false := by simpa using n18
 have e19 : (f.t == 106) = false := by simpa using n19
 have e20 : (f.t == 18) = false := by simpa using n20
 have e21 : (f.t == -10) = false := by simpa using n21
 have e22 : (f.t == 14) = false := by simpa using n22
 have e23 : (f.t == 22) = false := by simpa using n23
 clear n0 n1 n2 n3 n4 n5 n6 n7 n8 n9 n10 n11 n12 n13 n14 n15 n16 n17 n18 n19 n20 n21 n22 n23
 have HS0 := PutSt.mk' (f.row d a k0 k1 k2 k3 k4 i s).toArray hw hg hb0 hv hbase
 obtain ⟨cs, hcs⟩ : ∃ cs : Array Value, cs = (f.row d a k0 k1 k2 k3 k4 i s).toArray := ⟨_, rfl⟩
 obtain ⟨w1, hw1⟩ := xa w (f.row d a k0 k1 k2 k3 k4 i s).toArray 29
 rw [hw1] at HS0
 have HS := Hi HS0
 have HP0 : Hid (Wrote base g v v l [] w1 w1) := Wrote.start HS0.wr
 have d0 := HS0.cell HP0.out 0 (u := .int .i32 f.t) rfl
 rw [← hcs] at hw1 ⊢
 clear HS0 h hw hg hb0 hv hbase hcs
 go_enter Tryz.func23, Tryz.ntmps23
 go_wp2
 go_end0
 exact ⟨rfl, v, HP0.out.from HS.out.b1⟩
theorem put_101 {w0 w : World} {lo : Option Nat} (f : OpF) (d a k0 k1 k2 k3 k4 i s : Sl) (base g : Nat) (v : Value) (l : List UInt8) (ht : f.t = 101) (h : FAt w0 lo f d a k0 k1 k2 k3 k4 i) (hw : w0.heap.size ≤ base) (hg : base ≤ g) (hb0 : Below w0.heap.size w0 w) (hv : Wr w base g v l) (hbase : base ≤ w.heap.size) (hsz : l.length + (fldB f).length + 64 ≤ 140737488355328) :
 Calls Tryz.prog 23 #[.pointer (some ⟨g, 0, none⟩), .agg (f.row d a k0 k1 k2 k3 k4 i s).toArray] w fun e w' => e = .returned (.tuple #[]) ∧ ∃ v', Wrote base g v v' l (fldB f) w w' := by
 have hfb : fldB f = bLong f.zx ++ pListsB f := by unfold fldB; rw [ht]; rfl
 rw [hfb] at hsz ⊢
 clear hfb
 have HS0 := PutSt.mk' (f.row d a k0 k1 k2 k3 k4 i s).toArray hw hg hb0 hv hbase
 obtain ⟨cs, hcs⟩ : ∃ cs : Array Value, cs = (f.row d a k0 k1 k2 k3 k4 i s).toArray := ⟨_, rfl⟩
 obtain ⟨w1, hw1⟩ := xa w (f.row d a k0 k1 k2 k3 k4 i s).toArray 29
 rw [hw1] at HS0
 have HS := Hi HS0
 have HF := Hi h
 have HP0 : Hid (Wrote base g v v l [] w1 w1) := Wrote.start HS0.wr
 have d0 := HS0.cell HP0.out 0 (u := .int .i32 101) (by rw [← ht]; rfl)
 have d10 := HS0.cell HP0.out 10 (u := .int .i64 f.zx) rfl
 have e0 := h.k0.len
 have e1 := h.k1.len
 have e2 := h.k2.len
 have e3 := h.k3.len
 have e4 := h.k4.len
 have HPL : Hid (pListsB f = (bInt f.K0.length ++ bTexts f.K0) ++ ((bInt f.K1.length ++ bTexts f.K1) ++ ((bInt f.K2.length ++ bTexts f.K2) ++ ((bInt f.K3.length ++ bTexts f.K3) ++ ((bInt f.K4.length ++ bTexts f.K4) ++ []))))) := by
  unfold Hid pListsB OpF.lists
  simp only [List.flatMap_cons, List.flatMap_nil]
 obtain ⟨pl, hpl⟩ : ∃ x, x = pListsB f := ⟨_, rfl⟩
 rw [← hpl] at hsz HPL ⊢
 have hpn : pl.length = 20 + (bTexts f.K0).length + (bTexts f.K1).length + (bTexts f.K2).length + (bTexts f.K3).length + (bTexts f.K4).length := by
  rw [HPL.out]
  simp only [zG, bInt_len, zK]
  omega
 simp only [zG, bLong_len] at hsz
 rw [← hcs] at hw1 ⊢
 clear HS0 h hw hg hb0 hv hbase ht hcs hpl
 go_enter Tryz.func23, Tryz.ntmps23
 go_wp2_with (first
  | (go_at_call 45
     refine (wLong_any base g v _ _ _ HP0.out.1 (HS.out.le HP0.out) (by simp only [zG, zK]; omega)).mono ?_
     rintro e w2 ⟨rfl, v1, hp⟩
     have HP1 : Hid (Wrote base g v v1 l (bLong f.zx) w1 w2) := (by unfold Hid; have := HP0.out.cat zT hp; simpa using this)
     have HRL : Hid (∀ j u, ([k0.v, k1.v, k2.v, k3.v, k4.v] : List Value)[j]? = some u → w2.cell? ((⟨w.heap.size, 11, none⟩ : Addr).add j) = some u) := (fun j u hu => by
      rw [zN]
      have hj : j < 5 := by
       rcases Nat.lt_or_ge j 5 with h | h
       · exact h
       · rw [List.getElem?_eq_none (by simpa using h)] at hu; cases hu
      refine HS.out.cell HP1.out (11 + j) ?_
      rcases (by omega : j = 0 ∨ j = 1 ∨ j = 2 ∨ j = 3 ∨ j = 4) with rfl | rfl | rfl | rfl | rfl <;> exact hu)
     clear hp HP0 d0 d10)
  | (refine wpList_load_at (by rfl) 25 (.tmp 134) rfl ⟨w.heap.size, 11, none⟩ rfl [k0.v, k1.v, k2.v, k3.v, k4.v] _ HRL.out zU25 rfl isz_five ?_))
 go_loopw [136] (fun vi wr => ∃ (k : Nat) (v2 : Value) (pre post : List UInt8), k ≤ 5 ∧ vi = .int .i64 (k : Int) ∧ Hid (pl = pre ++ post) ∧ Hid (Wrote base g v v2 l (bLong f.zx ++ pre) w1 wr) ∧ Hid (post = ((f.lists.drop k).flatMap fun L => bInt L.length ++ bTexts L))) (fun vi _ => 5 - (intOf vi).toNat)
 case atStart => exact ⟨0, v1, [], pl, by omega, by go_num, rfl, (by unfold Hid; simpa using HP1.out), (by unfold Hid; rw [HPL.out]; unfold OpF.lists; simp only [List.drop_zero, List.flatMap_cons, List.flatMap_nil])⟩
 case round =>
  clear HP1 HRL
  obtain ⟨k, v2, pre, post, hk, rfl, HPR, HW, HPO⟩ := hrel
  by_cases hk5 : k < 5
  · rcases (by omega : k = 0 ∨ k = 1 ∨ k = 2 ∨ k = 3 ∨ k = 4) with rfl | rfl | rfl | rfl | rfl

    · have hpo : post = (bInt f.K0.length ++ bTexts f.K0) ++ ((f.lists.drop (0 + 1)).flatMap fun L => bInt L.length ++ bTexts L) := by rw [HPO.out]; rfl
      have hlen : pl.length = pre.length + (4 + (bTexts f.K0).length + ((f.lists.drop (0 + 1)).flatMap fun L => bInt L.length ++ bTexts L).length) := by rw [HPR.out, hpo]; simp only [zG, bInt_len]
      obtain ⟨rest, hrest⟩ : ∃ x, x = ((f.lists.drop (0 + 1)).flatMap fun L => bInt L.length ++ bTexts L) := ⟨_, rfl⟩
      rw [← hrest] at hpo hlen
      have HRE := Hi hrest
      have HPO2 := Hi hpo
      clear hpo hrest HPO hk hk5
      have hix : ∀ W, (Instr.index 25 (.agg #[k0.v, k1.v, k2.v, k3.v, k4.v]) (.int .i64 0)).run Tryz.prog W = .ok (.slice k0.A k0.n k0.c) W := fun W => by kernel_rfl
      go_wp2_with (first
       | (go_at_call 47
          refine (pTexts_any base g v2 _ k0.A k0.n k0.c w0.heap.size f.K0 _ HW.out.1 (by rw [← strCells_eq]; exact HF.out.k0.reads.below (HS.out.below HW.out)) HS.out.base0 HS.out.bg (HS.out.le HW.out) (Nat.le_trans (HF.out.k0.bd (by decide)) (by decide)) (by simp only [zG, bLong_len]; omega)).mono ?_
          rintro e w3 ⟨rfl, v3, hp⟩
          have HP := Hi (HW.out.cat zT hp)
          clear hp))
      go_roundw
      case rel => exact ⟨0 + 1, v3, pre ++ (bInt f.K0.length ++ bTexts f.K0), rest, by omega, by go_num, (by unfold Hid; rw [HPR.out, HPO2.out]; simp only [zL]), (by unfold Hid; have := HP.out; rw [← e0] at this; rwa [zL] at this), HRE.out⟩
      case measure => simp [intOf]
    · have hpo : post = (bInt f.K1.length ++ bTexts f.K1) ++ ((f.lists.drop (1 + 1)).flatMap fun L => bInt L.length ++ bTexts L) := by rw [HPO.out]; rfl
      have hlen : pl.length = pre.length + (4 + (bTexts f.K1).length + ((f.lists.drop (1 + 1)).flatMap fun L => bInt L.length ++ bTexts L).length) := by rw [HPR.out, hpo]; simp only [zG, bInt_len]
      obtain ⟨rest, hrest⟩ : ∃ x, x = ((f.lists.drop (1 + 1)).flatMap fun L => bInt L.length ++ bTexts L) := ⟨_, rfl⟩
      rw [← hrest] at hpo hlen
      have HRE := Hi hrest
      have HPO2 := Hi hpo
      clear hpo hrest HPO hk hk5
      have hix : ∀ W, (Instr.index 25 (.agg #[k0.v, k1.v, k2.v, k3.v, k4.v]) (.int .i64 1)).run Tryz.prog W = .ok (.slice k1.A k1.n k1.c) W := fun W => by kernel_rfl
      go_wp2_with (first
       | (go_at_call 47
          refine (pTexts_any base g v2 _ k1.A k1.n k1.c w0.heap.size f.K1 _ HW.out.1 (by rw [← strCells_eq]; exact HF.out.k1.reads.below (HS.out.below HW.out)) HS.out.base0 HS.out.bg (HS.out.le HW.out) (Nat.le_trans (HF.out.k1.bd (by decide)) (by decide)) (by simp only [zG, bLong_len]; omega)).mono ?_
          rintro e w3 ⟨rfl, v3, hp⟩
          have HP := Hi (HW.out.cat zT hp)
          clear hp))
      go_roundw
      case rel => exact ⟨1 + 1, v3, pre ++ (bInt f.K1.length ++ bTexts f.K1), rest, by omega, by go_num, (by unfold Hid; rw [HPR.out, HPO2.out]; simp only [zL]), (by unfold Hid; have := HP.out; rw [← e1] at this; rwa [zL] at this), HRE.out⟩
      case measure => simp [intOf]
    · have hpo : post = (bInt f.K2.length ++ bTexts f.K2) ++ ((f.lists.drop (2 + 1)).flatMap fun L => bInt L.length ++ bTexts L) := by rw [HPO.out]; rfl
      have hlen : pl.length = pre.length + (4 + (bTexts f.K2).length + ((f.lists.drop (2 + 1)).flatMap fun L => bInt L.length ++ bTexts L).length) := by rw [HPR.out, hpo]; simp only [zG, bInt_len]
      obtain ⟨rest, hrest⟩ : ∃ x, x = ((f.lists.drop (2 + 1)).flatMap fun L => bInt L.length ++ bTexts L) := ⟨_, rfl⟩
      rw [← hrest] at hpo hlen
      have HRE := Hi hrest
      have HPO2 := Hi hpo
      clear hpo hrest HPO hk hk5
      have hix : ∀ W, (Instr.index 25 (.agg #[k0.v, k1.v, k2.v, k3.v, k4.v]) (.int .i64 2)).run Tryz.prog W = .ok (.slice k2.A k2.n k2.c) W := fun W => by kernel_rfl
      go_wp2_with (first
       | (go_at_call 47
          refine (pTexts_any base g v2 _ k2.A k2.n k2.c w0.heap.size f.K2 _ HW.out.1 (by rw [← strCells_eq]; exact HF.out.k2.reads.below (HS.out.below HW.out)) HS.out.base0 HS.out.bg (HS.out.le HW.out) (Nat.le_trans (HF.out.k2.bd (by decide)) (by decide)) (by simp only [zG, bLong_len]; omega)).mono ?_
          rintro e w3 ⟨rfl, v3, hp⟩
          have HP := Hi (HW.out.cat zT hp)
          clear hp))
      go_roundw
      case rel => exact ⟨2 + 1, v3, pre ++ (bInt f.K2.length ++ bTexts f.K2), rest, by omega, by go_num, (by unfold Hid; rw [HPR.out, HPO2.out]; simp only [zL]), (by unfold Hid; have := HP.out; rw [← e2] at this; rwa [zL] at this), HRE.out⟩
      case measure => simp [intOf]
    · have hpo : post = (bInt f.K3.length ++ bTexts f.K3) ++ ((f.lists.drop (3 + 1)).flatMap fun L => bInt L.length ++ bTexts L) := by rw [HPO.out]; rfl
      have hlen : pl.length = pre.length + (4 + (bTexts f.K3).length + ((f.lists.drop (3 + 1)).flatMap fun L => bInt L.length ++ bTexts L).length) := by rw [HPR.out, hpo]; simp only [zG, bInt_len]
      obtain ⟨rest, hrest⟩ : ∃ x, x = ((f.lists.drop (3 + 1)).flatMap fun L => bInt L.length ++ bTexts L) := ⟨_, rfl⟩
      rw [← hrest] at hpo hlen
      have HRE := Hi hrest
      have HPO2 := Hi hpo
      clear hpo hrest HPO hk hk5
      have hix : ∀ W, (Instr.index 25 (.agg #[k0.v, k1.v, k2.v, k3.v, k4.v]) (.int .i64 3)).run Tryz.prog W = .ok (.slice k3.A k3.n k3.c) W := fun W => by kernel_rfl
      go_wp2_with (first
       | (go_at_call 47
          refine (pTexts_any base g v2 _ k3.A k3.n k3.c w0.heap.size f.K3 _ HW.out.1 (by rw [← strCells_eq]; exact HF.out.k3.reads.below (HS.out.below HW.out)) HS.out.base0 HS.out.bg (HS.out.le HW.out) (Nat.le_trans (HF.out.k3.bd (by decide)) (by decide)) (by simp only [zG, bLong_len]; omega)).mono ?_
          rintro e w3 ⟨rfl, v3, hp⟩
          have HP := Hi (HW.out.cat zT hp)
          clear hp))
      go_roundw
      case rel => exact ⟨3 + 1, v3, pre ++ (bInt f.K3.length ++ bTexts f.K3), rest, by omega, by go_num, (by unfold Hid; rw [HPR.out, HPO2.out]; simp only [zL]), (by unfold Hid; have := HP.out; rw [← e3] at this; rwa [zL] at this), HRE.out⟩
      case measure => simp [intOf]
    · have hpo : post = (bInt f.K4.length ++ bTexts f.K4) ++ ((f.lists.drop (4 + 1)).flatMap fun L => bInt L.length ++ bTexts L) := by rw [HPO.out]; rfl
      have hlen : pl.length = pre.length + (4 + (bTexts f.K4).length + ((f.lists.drop (4 + 1)).flatMap fun L => bInt L.length ++ bTexts L).length) := by rw [HPR.out, hpo]; simp only [zG, bInt_len]
      obtain ⟨rest, hrest⟩ : ∃ x, x = ((f.lists.drop (4 + 1)).flatMap fun L => bInt L.length ++ bTexts L) := ⟨_, rfl⟩
      rw [← hrest] at hpo hlen
      have HRE := Hi hrest
      have HPO2 := Hi hpo
      clear hpo hrest HPO hk hk5
      have hix : ∀ W, (Instr.index 25 (.agg #[k0.v, k1.v, k2.v, k3.v, k4.v]) (.int .i64 4)).run Tryz.prog W = .ok (.slice k4.A k4.n k4.c) W := fun W => by kernel_rfl
      go_wp2_with (first
       | (go_at_call 47
          refine (pTexts_any base g v2 _ k4.A k4.n k4.c w0.heap.size f.K4 _ HW.out.1 (by rw [← strCells_eq]; exact HF.out.k4.reads.below (HS.out.below HW.out)) HS.out.base0 HS.out.bg (HS.out.le HW.out) (Nat.le_trans (HF.out.k4.bd (by decide)) (by decide)) (by simp only [zG, bLong_len]; omega)).mono ?_
          rintro e w3 ⟨rfl, v3, hp⟩
          have HP := Hi (HW.out.cat zT hp)
          clear hp))
      go_roundw
      case rel => exact ⟨4 + 1, v3, pre ++ (bInt f.K4.length ++ bTexts f.K4), rest, by omega, by go_num, (by unfold Hid; rw [HPR.out, HPO2.out]; simp only [zL]), (by unfold Hid; have := HP.out; rw [← e4] at this; rwa [zL] at this), HRE.out⟩
      case measure => simp [intOf]
  · have hk2 : k = 5 := by omega
    subst hk2
    have hpe : pl = pre := by rw [HPR.out, HPO.out]; simp [OpF.lists]
    have HE := Hi hpe
    clear hpe HPO
    go_wp2
    go_end0
    exact ⟨rfl, v2, by rw [HE.out]; exact HW.out.from HS.out.b1⟩
def hdrB (t : Int) (b : Bool) : List UInt8 := bInt t ++ bBool b ++ bInt (-1)
theorem hdrB_len (t : Int) (b : Bool) : (hdrB t b).length = 9 := by
 unfold hdrB
 simp [bInt_len, bBool]
mutual
def OpC.putB : OpC → List UInt8
 | .mk f S => if f.t = 14 ∨ f.t = 22 then subsB S ++ hdrB (-1) true else fldB f
def subsB : List OpC → List UInt8
 | [] => []
 | x :: r => (hdrB x.f.t false ++ x.putB) ++ subsB r
end
theorem put_plain {w0 w : World} {lo : Option Nat} (f : OpF) (d a k0 k1 k2 k3 k4 i s : Sl) (base g : Nat) (v : Value) (l : List UInt8) (ht : ¬ (f.t = 14 ∨ f.t = 22)) (h : FAt w0 lo f d a k0 k1 k2 k3 k4 i) (hw : w0.heap.size ≤ base) (hg : base ≤ g) (hb0 : Below w0.heap.size w0 w) (hv : Wr w base g v l) (hbase : base ≤ w.heap.size) (hsz : l.length + (fldB f).length + 64 ≤ 140737488355328) :
 Calls Tryz.prog 23 #[.pointer (some ⟨g, 0, none⟩), .agg (f.row d a k0 k1 k2 k3 k4 i s).toArray] w fun e w' => e = .returned (.tuple #[]) ∧ ∃ v', Wrote base g v v' l (fldB f) w w' := by
 by_cases hn : f.t ∈ ([1, 15, 19, 21, 2, 13, 5, 7, 120, 121, 6, 9, 103, 104, 3, 4, 8, 12, 101, 106, 18, -10, 14, 22] : List Int)
 · simp only [zH, zI, or_false] at hn
   rcases hn with hc | hc | hc | hc | hc | hc | hc | hc | hc | hc | hc | hc | hc | hc | hc | hc | hc | hc | hc | hc | hc | hc | hc | hc
   · exact put_g0 1 (by decide) f d a k0 k1 k2 k3 k4 i s base g v l hc h hw hg hb0 hv hbase hsz
   · exact put_g0 15 (by decide) f d a k0 k1 k2 k3 k4 i s base g v l hc h hw hg hb0 hv hbase hsz
   · exact put_g0 19 (by decide) f d a k0 k1 k2 k3 k4 i s base g v l hc h hw hg hb0 hv hbase hsz
   · exact put_g1 21 (by decide) f d a k0 k1 k2 k3 k4 i s base g v l hc h hw hg hb0 hv hbase hsz
   · exact put_g2 2 (by decide) f d a k0 k1 k2 k3 k4 i s base g v l hc h hw hg hb0 hv hbase hsz
   · exact put_g2 13 (by decide) f d a k0 k1 k2 k3 k4 i s base g v l hc h hw hg hb0 hv hbase hsz
   · exact put_g3 5 (by decide) f d a k0 k1 k2 k3 k4 i s base g v l hc h hw hg hb0 hv hbase hsz
   · exact put_g4 7 (by decide) f d a k0 k1 k2 k3 k4 i s base g v l hc h hw hg hb0 hv hbase hsz
   · exact put_g5 120 (by decide) f d a k0 k1 k2 k3 k4 i s base g v l hc h hw hg hb0 hv hbase hsz
   · exact put_g6 121 (by decide) f d a k0 k1 k2 k3 k4 i s base g v l hc h hw hg hb0 hv hbase hsz
   · exact put_g6 6 (by decide) f d a k0 k1 k2 k3 k4 i s base g v l hc h hw hg hb0 hv hbase hsz
   · exact put_g6 9 (by decide) f d a k0 k1 k2 k3 k4 i s base g v l hc h hw hg hb0 hv hbase hsz
   · exact put_g6 103 (by decide) f d a k0 k1 k2 k3 k4 i s base g v l hc h hw hg hb0 hv hbase hsz
   · exact put_g6 104 (by decide) f d a k0 k1 k2 k3 k4 i s base g v l hc h hw hg hb0 hv hbase hsz
   · exact put_g7 3 (by decide) f d a k0 k1 k2 k3 k4 i s base g v l hc h hw hg hb0 hv hbase hsz
   · exact put_g7 4 (by decide) f d a k0 k1 k2 k3 k4 i s base g v l hc h hw hg hb0 hv hbase hsz
   · exact put_g7 8 (by decide) f d a k0 k1 k2 k3 k4 i s base g v l hc h hw hg hb0 hv hbase hsz
   · exact put_g7 12 (by decide) f d a k0 k1 k2 k3 k4 i s base g v l hc h hw hg hb0 hv hbase hsz
   · exact put_101 f d a k0 k1 k2 k3 k4 i s base g v l hc h hw hg hb0 hv hbase hsz
   · exact put_g8 106 (by decide) f d a k0 k1 k2 k3 k4 i s base g v l hc h hw hg hb0 hv hbase hsz
   · exact put_g8 18 (by decide) f d a k0 k1 k2 k3 k4 i s base g v l hc h hw hg hb0 hv hbase hsz
   · exact put_g9 (-10) (by decide) f d a k0 k1 k2 k3 k4 i s base g v l hc h hw hg hb0 hv hbase hsz
   · exact absurd (Or.inl hc) ht
   · exact absurd (Or.inr hc) ht
 · exact put_none f d a k0 k1 k2 k3 k4 i s base g v l hn h hw hg hb0 hv hbase hsz

theorem opPut_any {w0 : World} {lo : Option Nat} {x : OpC} {xs : List Value} (h : At w0 lo x xs) : ∀ (w : World) (base g : Nat) (v : Value) (l : List UInt8), w0.heap.size ≤ base → base ≤ g → Below w0.heap.size w0 w → Wr w base g v l → base ≤ w.heap.size → l.length + x.putB.length + 64 ≤ 140737488355328 →
 Calls Tryz.prog 23 #[.pointer (some ⟨g, 0, none⟩), .agg xs.toArray] w fun e w' => e = .returned (.tuple #[]) ∧ ∃ v', Wrote base g v v' l x.putB w w' := by
 induction h with
 | mk f d a k0 k1 k2 k3 k4 i s Q ok hd ha hk0 hk1 hk2 hk3 hk4 hi hs hQ ih =>
   intro w base g v l hw hg hb0 hv hbase hsz
   rw [OpC.putB] at hsz ⊢
   by_cases ht : f.t = 14 ∨ f.t = 22
   rotate_left
   · rw [if_neg ht] at hsz ⊢
     exact put_plain f d a k0 k1 k2 k3 k4 i s base g v l ht ⟨hd, ha, hk0, hk1, hk2, hk3, hk4, hi⟩ hw hg hb0 hv hbase hsz
   rw [if_pos ht] at hsz ⊢
   have HS0 := PutSt.mk' (f.row d a k0 k1 k2 k3 k4 i s).toArray hw hg hb0 hv hbase
   obtain ⟨cs, hcs⟩ : ∃ cs : Array Value, cs = (f.row d a k0 k1 k2 k3 k4 i s).toArray := ⟨_, rfl⟩
   obtain ⟨w1, hw1⟩ := xa w (f.row d a k0 k1 k2 k3 k4 i s).toArray 29
   rw [hw1] at HS0
   have HS := Hi HS0
   have HP0 : Hid (Wrote base g v v l [] w1 w1) := Wrote.start HS0.wr
   have d18 := HS0.cell HP0.out 18 (u := .slice s.A s.n s.c) rfl
   have d00 := HS0.cell HP0.out 0 (u := .int .i32 f.t) rfl
   have HR : Hid (Reads w0 w0.heap.size 19 s.A s.n (Q.flatMap Prod.snd)) := hs.reads
   have HQA : Hid (∀ q ∈ Q, At w0 lo q.1 q.2) := hQ
   have HSL : Hid (Q.length = s.n) := hs.len
   have HIH : Hid (∀ q ∈ Q, ∀ (w : World) (base g : Nat) (v : Value) (l : List UInt8), w0.heap.size ≤ base → base ≤ g → Below w0.heap.size w0 w → Wr w base g v l → base ≤ w.heap.size → l.length + q.1.putB.length + 64 ≤ 140737488355328 →
    Calls Tryz.prog 23 #[.pointer (some ⟨g, 0, none⟩), .agg q.2.toArray] w fun e w' => e = .returned (.tuple #[]) ∧ ∃ v', Wrote base g v v' l q.1.putB w w') := ih
   have hlen : s.n ≤ 4611686018427387904 := hs.bd (by decide)
   obtain ⟨S, hS⟩ : ∃ S, S = Q.map Prod.fst := ⟨_, rfl⟩
   have HSQ := Hi hS
   rw [← hS] at hsz ⊢
   simp only [zG, hdrB_len] at hsz
   rw [← hcs] at hw1 ⊢
   clear ih hs hd ha hk0 hk1 hk2 hk3 hk4 hi hQ ok hb0 hS hcs HS0 hv hw hg hbase
   obtain ⟨A, N, c⟩ := s
   dsimp only at HR HSL hlen d18
   rcases ht with ht | ht
   all_goals
    rw [ht] at d00
    clear ht
    go_enter Tryz.func23, Tryz.ntmps23
    go_wp2
    clear d00 d18
    go_loopw [170] (fun vi wr => ∃ (k : Nat) (v2 : Value) (pre : List UInt8), k ≤ N ∧ vi = .int .i64 (k : Int) ∧ Hid (subsB S = pre ++ subsB (S.drop k)) ∧ Hid (Wrote base g v v2 l pre w1 wr)) (fun vi _ => N - (intOf vi).toNat)
    case atStart => exact ⟨0, v, [], by omega, by go_num, (by unfold Hid; simp), HP0.out⟩
    case round =>
     clear HP0
     obtain ⟨k, v2, pre, hk, rfl, HK, HW⟩ := hrel
     by_cases hkn : k < N
     · have hkQ : k < Q.length := by rw [HSL.out]; exact hkn
       obtain ⟨ad, hA, hrow⟩ := rowAt (HR.out.below (HS.out.below HW.out)) HQA.out hkQ HSL.out
       subst hA
       have hdrop : S.drop k = (Q[k]).1 :: S.drop (k + 1) := by
        rw [HSQ.out, List.drop_eq_getElem_cons (by simpa using hkQ)]
        simp
       have hih := HIH.out (Q[k]) (List.getElem_mem _)
       have hx0 := (HQA.out (Q[k]) (List.getElem_mem _)).c0
       obtain ⟨⟨x, xc⟩, hx⟩ : ∃ x, x = Q[k] := ⟨_, rfl⟩
       rw [← hx] at hrow hdrop hih hx0
       dsimp only at hrow hdrop hih hx0
       have hk' := HK.out
       rw [hdrop, subsB] at hk'
       have hle : (subsB S).length = pre.length + (9 + x.putB.length + (subsB (S.drop (k + 1))).length) := by rw [hk']; simp only [zG, hdrB_len]
       have HK2 : Hid (subsB S = (pre ++ (hdrB x.f.t false ++ x.putB)) ++ subsB (S.drop (k + 1))) := by unfold Hid; rw [hk']; simp only [zL]
       have HROW := Hi hrow
       have HIK := Hi hih
       obtain ⟨w2, hw2⟩ := xa wr (xc.toArray) 29
       have hn2 := zW hw2
       have hb2 := zV hw2
       have cx0 := yC hn2 0 (by simpa using hx0)
       have HN2 := Hi hn2
       have HNE : Hid (wr.heap.size ∉ g :: v2.ownBlock.toList) := fun hx => by
        rcases zH.1 hx with hx | hx
        · have := HW.out.1.lt
          omega
        · have := (HW.out.1.2.lt wr.heap.size (by simpa using hx)).2
          omega
       have HW2 := Hi (HW.out.later hb2)
       generalize hxt : x.f.t = xt at cx0
       have HXT := Hi hxt
       clear hx hrow hdrop hih hx0 hk' hn2 hb2 hxt hkQ
       go_wp2_with (first
        | (refine wpList_load_at (by rfl) 29 (.tmp 172) rfl (ad.add (k * 19)) rfl xc _ HROW.out.cells zU29 rfl HROW.out.info ?_)
        | (refine wpList_newrow rfl rfl 29 rfl 7 rfl (.tmp 173) rfl rfl xc.toArray (fun _ => rfl) (show 7 < 184 by decide) HROW.out.zero HROW.out.infoA HROW.out.one ?_
           rw [hw2])
        | (go_at_call 49
           refine (header_any base g v2 _ xt false _ HW2.out.1 (HS.out.le HW2.out) (by simp only [zG]; omega)).mono ?_
           rintro e w3 ⟨rfl, v3, hp⟩
           have HW3 := Hi (HW2.out.cat zT hp)
           have HN3 : Hid (Blk w3 wr.heap.size 29 xc.toArray) := HN2.out.kp hp.2.1 HNE.out
           clear hp cx0)
        | (refine wpList_load_row rfl 29 (.tmp 7) rfl wr.heap.size rfl 29 _ _ _ HN3.out zU29 rfl HROW.out.infoA ?_)
        | (go_at_call 23
           refine (HIK.out _ base g v3 _ HS.out.base0 HS.out.bg (HS.out.below HW3.out) HW3.out.1 (HS.out.le HW3.out) (by simp only [zG, bInt_len, bBool, zJ]; omega)).mono ?_
           rintro e w4 ⟨rfl, v4, hp⟩
           have HW4 := Hi (HW3.out.cat zT hp)
           clear hp))
       go_roundw
       case rel => exact ⟨k + 1, v4, pre ++ (hdrB x.f.t false ++ x.putB), by omega, by go_num, HK2.out, (by unfold Hid hdrB; rw [HXT.out, ← zL]; exact HW4.out)⟩
       case measure => simp [intOf]; omega
     · have hkk : k = N := by omega
       subst hkk
       have hpe : subsB S = pre := by
        have h := HK.out
        rwa [List.drop_eq_nil_of_le (by rw [HSQ.out, List.length_map, HSL.out]; exact Nat.le_refl _), subsB, List.append_nil] at h
       rw [hpe] at hsz
       have HPE := Hi hpe
       clear HK hpe
       go_wp2_with (first
        | (go_at_call 49
           refine (header_any base g v2 _ (-1) true _ HW.out.1 (HS.out.le HW.out) (by simp only [zG]; omega)).mono ?_
           rintro e w3 ⟨rfl, v3, hp⟩
           have HW3 := Hi (HW.out.cat zT hp)
           clear hp))
       go_end0
       exact ⟨rfl, v3, by rw [HPE.out]; exact HW3.out.from HS.out.b1⟩

theorem bTexts_le (L : List ByteArray) : (bTexts L).length ≤ 4 * bulkS L := by
 unfold bTexts bulkS
 induction L with
 | nil => simp
 | cons x r ih =>
   rw [List.flatMap_cons, zG, List.map_cons, List.sum_cons, bBuf_len, ← bsize_eq]
   omega
theorem pIdsB_le (L : List (ByteArray × ByteArray)) : (pIdsB L).length ≤ 3 * bulkI L := by
 unfold pIdsB bulkI
 induction L with
 | nil => simp
 | cons x r ih =>
   rw [List.flatMap_cons, zG, List.map_cons, List.sum_cons, pIdB_len]
   omega
theorem pAclsB_le (L : List AclT) : (pAclsB L).length ≤ 3 * bulkA L := by
 unfold pAclsB bulkA
 induction L with
 | nil => simp
 | cons x r ih =>
   rw [List.flatMap_cons, zG, List.map_cons, List.sum_cons, pAclB_len]
   omega
theorem fldB_le (f : OpF) : (fldB f).length + 18 ≤ 5 * f.bulk := by
 have h0 := bTexts_le f.K0
 have h1 := bTexts_le f.K1
 have h2 := bTexts_le f.K2
 have h3 := bTexts_le f.K3
 have h4 := bTexts_le f.K4
 have h5 := pIdsB_le f.I
 have h6 := pAclsB_le f.L
 have hs := bsize_eq f.p
 have h7 : (pListsB f).length = 20 + (bTexts f.K0).length + (bTexts f.K1).length + (bTexts f.K2).length + (bTexts f.K3).length + (bTexts f.K4).length := by
  unfold pListsB OpF.lists
  simp only [List.flatMap_cons, List.flatMap_nil, zG, bInt_len, zK]
  omega
 have hb : f.bulk = 20 + f.p.size + f.l.length + bulkA f.L + bulkS f.K0 + bulkS f.K1 + bulkS f.K2 + bulkS f.K3 + bulkS f.K4 + bulkI f.I := rfl
 rw [hb]
 clear hb
 obtain ⟨n7, h8⟩ : ∃ n, n = (pListsB f).length := ⟨_, rfl⟩
 generalize bulkA f.L = b1 at h6
 generalize bulkI f.I = b2 at h5
 unfold fldB
 split
 · simp only [zG, bBuf_len, bInt_len, bLong_len, bBool, zJ, zK, ← bsize_eq]
   omega
 split
 · simp only [zG, bBuf_len, bInt_len, bLong_len, bBool, zJ, zK, ← bsize_eq]
   omega
 split
 · simp only [zG, bBuf_len, bInt_len, bLong_len, bBool, zJ, zK, ← bsize_eq]
   omega
 split
 · simp only [zG, bBuf_len, bInt_len, bLong_len, bBool, zJ, zK, ← bsize_eq]
   omega
 split
 · simp only [zG, bBuf_len, bInt_len, bLong_len, bBool, zJ, zK, ← bsize_eq]
   omega
 split
 · simp only [zG, bBuf_len, bInt_len, bLong_len, bBool, zJ, zK, ← bsize_eq]
   omega
 split
 · simp only [zG, bBuf_len, bInt_len, bLong_len, bBool, zJ, zK, ← bsize_eq]
   omega
 split
 · simp only [zG, bBuf_len, bInt_len, bLong_len, bBool, zJ, zK, ← bsize_eq]
   omega
 split
 · simp only [zG, bBuf_len, bInt_len, bLong_len, bBool, zJ, zK, ← bsize_eq]
   omega
 split
 · simp only [zG, bBuf_len, bInt_len, bLong_len, bBool, zJ, zK, ← bsize_eq]
   omega
 split
 · rename_i h101
   have : pListsB f = pListsB f := rfl
   simp only [zG, bLong_len]
   omega
 · simp only [zK]
   omega
mutual
theorem OpC.putB_le : ∀ x : OpC, x.putB.length + 9 ≤ 5 * x.bulk
 | .mk f S => by
   have h1 := fldB_le f
   have h2 := subsB_le S
   rw [OpC.putB, OpC.bulk]
   have h3 : 20 ≤ f.bulk := by unfold OpF.bulk; omega
   split
   · rw [zG, hdrB_len]; omega
   · omega
theorem subsB_le : ∀ S : List OpC, (subsB S).length ≤ 5 * bulkL S
 | [] => by rw [subsB, bulkL]; simp
 | x :: r => by
   have h1 := OpC.putB_le x
   have h2 := subsB_le r
   rw [subsB, bulkL]
   simp only [zG, hdrB_len]
   omega
end
def OpC.encE (x : OpC) : Int := if x.rightE ≠ 0 then x.rightE else if kindN x.f.t = 5 then 110 else 0
def encB (xid : Int) (x : OpC) : List UInt8 := bInt xid ++ bInt x.f.t ++ x.putB
def Encoded (w : World) (xid : Int) (x : OpC) (e : Ending) (w' : World) : Prop :=
 Below w.heap.size w w' ∧ ((x.encE ≠ 0 ∧ e = .returned (.tuple #[.slice none 0 0, .int .i64 x.encE])) ∨
  (x.encE = 0 ∧ ∃ base A c, w.heap.size ≤ base ∧ e = .returned (.tuple #[.slice A (encB xid x).length c, .int .i64 0]) ∧ w'.ownsRow base 5 1 (.slice A (encB xid x).length c) (encB xid x).length (bcells (encB xid x))))
theorem encode_of {w : World} {lo : Option Nat} {x : OpC} {xs : List Value} (xid : Int) (h : At w lo x xs) (hb : x.bulk ≤ 1000000000) (HR0 : ∀ W, Below w.heap.size w W → Calls Tryz.prog 13 #[.agg xs.toArray] W fun e w' => e = .returned (.int .i64 x.rightE) ∧ Below W.heap.size W w') (HP0 : ∀ (W : World) (base g : Nat) (v : Value) (l : List UInt8), w.heap.size ≤ base → base ≤ g → Below w.heap.size w W → Wr W base g v l → base ≤ W.heap.size → l.length + x.putB.length + 64 ≤ 140737488355328 →
 Calls Tryz.prog 23 #[.pointer (some ⟨g, 0, none⟩), .agg xs.toArray] W fun e w' => e = .returned (.tuple #[]) ∧ ∃ v', Wrote base g v v' l x.putB W w') :
 Calls Tryz.prog 21 #[.agg (.int .i32 xid :: xs).toArray] w (Encoded w xid x) := by
 have HR := Hi HR0
 have HP := Hi HP0
 have HK : Hid (∀ W, Calls Tryz.prog 11 #[.int .i32 x.f.t] W fun e w' => e = .returned (.int .i64 (kindN x.f.t)) ∧ w' = W) := fun W => kind_any x.f.t W
 have hpl := x.putB_le
 have hx0 := h.c0
 have h19 := h.len
 have HI19 : Hid ((Tryz.prog.info? 29).map (·.size) = some xs.length) := by unfold Hid; rw [h19]; exact isz_29
 obtain ⟨cs, hcs⟩ : ∃ cs : Array Value, cs = (Value.int .i32 xid :: xs).toArray := ⟨_, rfl⟩
 rw [← hcs]
 obtain ⟨w1, hw1⟩ := xa w cs 44
 have hb1 := zV hw1
 have hn1 : Blk w1 w.heap.size 44 (Value.int .i32 xid :: xs).toArray := by rw [← hcs, ← hw1]; exact Blk.new _ _ _
 have HB1 := Hi hb1
 have HN1 := Hi hn1
 have HRW : Hid (∀ W, Blk W w.heap.size 44 (Value.int .i32 xid :: xs).toArray → ∀ j v, xs[j]? = some v → W.cell? ((⟨w.heap.size, 1, none⟩ : Addr).add j) = some v) := fun W hB j v hv => by
  rw [zN, Nat.add_comm]
  exact yC hB (j + 1) (by simpa using hv)
 have HRW1 : Hid (∀ j v, xs[j]? = some v → w1.cell? ((⟨w.heap.size, 1, none⟩ : Addr).add j) = some v) := HRW.out w1 hn1
 have HX0 : Hid ((Value.int .i32 xid :: xs).toArray[1]? = some (.int .i32 x.f.t)) := by unfold Hid; simpa using hx0
 obtain ⟨re, hre⟩ : ∃ z, z = x.rightE := ⟨_, rfl⟩
 obtain ⟨kn, hkn⟩ : ∃ z, z = kindN x.f.t := ⟨_, rfl⟩
 obtain ⟨xt, hxt⟩ : ∃ z, z = x.f.t := ⟨_, rfl⟩
 obtain ⟨pb, hpb⟩ : ∃ z, z = x.putB := ⟨_, rfl⟩
 have hEE : x.encE = if re ≠ 0 then re else if kn = 5 then 110 else 0 := by unfold OpC.encE; rw [← hre, ← hkn]
 have hpn : pb.length ≤ 5000000000 := by rw [hpb]; omega
 obtain ⟨K, hK⟩ : ∃ K, K = bInt xid ++ bInt xt ++ pb := ⟨_, rfl⟩
 have hEB : encB xid x = K := by unfold encB; rw [← hxt, ← hpb, ← hK]
 have hKl : K.length ≤ 5000000008 := by rw [hK]; simp only [zG, bInt_len]; omega
 have HK7 := Hi hK
 rw [← hre] at HR
 rw [← hkn, ← hxt] at HK
 rw [← hxt] at HX0
 rw [← hpb] at HP hpl
 unfold Encoded
 rw [hEE, hEB]
 clear hcs h hb hb1 hn1 hre hkn hxt hpb hEE hEB hpl hx0 h19 hK HR0 HP0
 by_cases ho : re = 0
 rotate_left
 · rw [if_pos ho]
   have hob : (re != 0) = true := by simpa using ho
   have HO := Hi ho
   clear ho HP HK
   go_enter Tryz.func21, Tryz.ntmps21
   go_wp2_with (first
    | (refine wpList_load_at (by rfl) 29 (.tmp 6) rfl ⟨w.heap.size, 1, none⟩ rfl xs _ HRW1.out zU29 rfl HI19.out ?_)
    | (go_at_call 13
       refine (HR.out _ HB1.out).mono ?_
       rintro e w3 ⟨rfl, hb⟩
       have HB3 : Hid (Below w.heap.size w w3) := HB1.out.trans (hb.mono HB1.out.size)
       clear hb))
   go_ret2
   exact ⟨HB3.out, .inl ⟨HO.out, rfl⟩⟩
 rw [if_neg (by simpa using ho)]
 subst ho
 by_cases hk5 : kn = 5
 · rw [if_pos hk5]
   subst hk5
   clear HP
   go_enter Tryz.func21, Tryz.ntmps21
   go_wp2_with (first
    | (refine wpList_load_at (by rfl) 29 (.tmp 6) rfl ⟨w.heap.size, 1, none⟩ rfl xs _ HRW1.out zU29 rfl HI19.out ?_)
    | (go_at_call 13
       refine (HR.out _ HB1.out).mono ?_
       rintro e w3 ⟨rfl, hb⟩
       have HB3 : Hid (Below w.heap.size w w3) := HB1.out.trans (hb.mono HB1.out.size)
       have d1 := yC (HN1.out.below hb HN1.out.lt) 1 HX0.out
       clear hb)
    | (go_at_call 11; refine (HK.out _).mono ?_; rintro e w4 ⟨rfl, he⟩; obtain rfl := he.symm))
   go_ret2
   exact ⟨HB3.out, .inl ⟨by decide, rfl⟩⟩
 rw [if_neg hk5]
 have hkb : (kn == 5) = false := by simpa using hk5
 clear hk5
 go_enter Tryz.func21, Tryz.ntmps21
 go_wp2_with (first
  | (refine wpList_load_at (by rfl) 29 (.tmp 6) rfl ⟨w.heap.size, 1, none⟩ rfl xs _ HRW1.out zU29 rfl HI19.out ?_)
  | (go_at_call 13
     refine (HR.out _ HB1.out).mono ?_
     rintro e w2 ⟨rfl, hb⟩
     have HB2 : Hid (Below w.heap.size w w2) := HB1.out.trans (hb.mono HB1.out.size)
     have HN2 := Hi (HN1.out.below hb HN1.out.lt)
     have d1 := yC HN2.out 1 HX0.out
     obtain ⟨w3, hw3⟩ := xa w2 #[.slice none 0 0] 50
     have hb23 := zV hw3
     have HW3 : Hid (Wr w3 w2.heap.size w2.heap.size (.slice none 0 0) []) := ⟨by rw [← hw3]; exact Blk.new _ _ _, World.ownsRow_nil _ _ _ _⟩
     have HB23 := Hi hb23
     have HN3 := Hi (HN2.out.below hb23 HN2.out.lt)
     have c0 := yC HN3.out 0 (u := .int .i32 xid) rfl
     have hlt := HN2.out.lt
     have HNE : Hid (w.heap.size ∉ w2.heap.size :: (Value.slice none 0 0).ownBlock.toList) := (fun hx => by
      rcases zH.1 hx with hx | hx
      · omega
      · simp [Value.ownBlock] at hx)
     clear hb hb23)
  | (go_at_call 11; refine (HK.out _).mono ?_; rintro e w4 ⟨rfl, he⟩; obtain rfl := he.symm; clear d1)
  | (go_at_call 40
     refine (wInt_any w2.heap.size w2.heap.size _ [] xid _ HW3.out HB23.out.size (by simp)).mono ?_
     rintro e w4 ⟨rfl, v4, hp⟩
     have HP4 := Hi hp
     have e1 := yC (HN3.out.kp hp.2.1 HNE.out) 1 HX0.out
     have hz4 := Nat.le_trans HB23.out.size hp.size
     clear hp c0)
  | (go_at_call 40
     refine (wInt_any w2.heap.size w2.heap.size _ _ xt _ HP4.out.1 hz4 (by simp only [zG, bInt_len, zK]; omega)).mono ?_
     rintro e w5 ⟨rfl, v5, hp⟩
     have HP5 := Hi (HP4.out.cat zT hp)
     have HR5 : Hid (∀ j v, xs[j]? = some v → w5.cell? ((⟨w.heap.size, 1, none⟩ : Addr).add j) = some v) := HRW.out _ (HN3.out.kp HP5.out.2.1 HNE.out)
     have hz5 := Nat.le_trans hz4 hp.size
     clear hp e1 HP4)
  | (refine wpList_load_at (by rfl) 29 (.tmp 29) rfl ⟨w.heap.size, 1, none⟩ rfl xs _ HR5.out zU29 rfl HI19.out ?_)
  | (go_at_call 23
     refine (HP.out _ w2.heap.size w2.heap.size _ _ HB2.out.size zR (HB2.out.trans ((HB23.out.trans (HP5.out.below zR (fun x hx => by simp [Value.ownBlock] at hx) HB23.out.size)).mono HB2.out.size)) HP5.out.1 hz5 (by simp only [zG, bInt_len, zK]; omega)).mono ?_
     rintro e w6 ⟨rfl, v6, hp⟩
     have HP6 : Hid (Wrote w2.heap.size w2.heap.size (.slice none 0 0) v6 [] K w3 w6) := (by unfold Hid; rw [HK7.out]; exact HP5.out.cat zT hp)
     clear hp HP5 HR5)
  | (go_at_call 25
     refine (wBytes_any w2.heap.size w2.heap.size v6 K _ HP6.out.1 (by omega)).mono ?_
     rintro e w7 ⟨A7, c7, rfl, ho, hb⟩
     have HO7 := Hi ho
     have HB7 := Hi hb
     clear ho hb))
 go_ret2
 have hB6 : Below w.heap.size w w6 := HB2.out.trans ((HB23.out.trans (HP6.out.below zR (fun x hx => by simp [Value.ownBlock] at hx) HB23.out.size)).mono HB2.out.size)
 exact ⟨hB6.trans (HB7.out.mono hB6.size), (by first | exact .inr ⟨trivial, w6.heap.size, A7, c7, hB6.size, rfl, HO7.out⟩ | exact .inr ⟨rfl, w6.heap.size, A7, c7, hB6.size, rfl, HO7.out⟩)⟩
theorem encode_any {w : World} {lo : Option Nat} {x : OpC} {xs : List Value} (xid : Int) (h : At w lo x xs) (E : Env w) (hb : x.bulk ≤ 1000000000) :
 Calls Tryz.prog 21 #[.agg (.int .i32 xid :: xs).toArray] w (Encoded w xid x) := encode_of xid h hb (fun W hW => right_any (h.later hW) (E.below hW) hb) (opPut_any h)

theorem obs_of (s : ByteArray) : bs s.data.toList = s := by cases s; simp [bs]
theorem obs_list (x : List UInt8) : (bs x).data.toList = x := by simp [bs]
def WB {α : Type} (d : List UInt8) (g : Rg α) (x : α) : Prop := ∀ l p, Atb l p d → g l p = .inl (x, p + d.length)
section
variable {α β : Type} {d e : List UInt8} {f : Rg α} {g : α → Rg β} {x : α} {y : β}
theorem WB.bind (h : WB d f x) (k : WB e (g x) y) : WB (d ++ e) (f.bind g) y := fun l p ha => by
 rw [gb_ev (h l p ha.left), k l _ ha.right, zG, Nat.add_assoc]
theorem WB.ret (x : α) : WB [] (Rg.ret x) x := fun _ _ _ => rfl
theorem WB.last (h : WB d f x) (k : g x = Rg.ret y) : WB d (f.bind g) y := fun l p ha => by
 rw [gb_ev (h l p ha), k]
 rfl
theorem WB.map (h : WB d f x) (k : α → β) : WB d (f.map k) (k x) := fun l p ha => by
 unfold Rg.map
 rw [h l p ha]
end
theorem wb_int {z : Int} (h : (Lit.int .i32 z).wf = true) : WB (bInt z) gInt z := fun l p ha => by
 rw [int_atb ha, bInt_len]
 have e : wrap32 z = z := by
  have := bounds_i32 h
  unfold wrap32
  omega
 rw [e]
theorem wb_long {z : Int} (h : (Lit.int .i64 z).wf = true) : WB (bLong z) gLong z := fun l p ha => by
 rw [long_atb ha, bLong_len]
 have e : wrap64 z = z := by
  have := bounds_i64 h
  unfold wrap64
  omega
 rw [e]
theorem wb_bool (b : Bool) : WB (bBool b) gBool b := fun l p ha => by
 rw [bool_atb ha]
 rfl
theorem wb_buf {b : List UInt8} {most : Int} (hm : (b.length : Int) ≤ most) (hm2 : most ≤ 2147483647) : WB (bBuf b) (gBuf most) b := fun l p ha => by
 rw [buf_atb ha (by omega) hm, bBuf_len, Nat.add_assoc]
theorem wb_text {s : ByteArray} {most : Int} (hm : (s.size : Int) ≤ most) (hm2 : most ≤ 2147483647) (hv : validS s = true) : WB (bBuf s.data.toList) (gText most) s.data.toList := fun l p ha => by
 have := bsize_eq s
 unfold gText
 rw [buf_atb ha (by omega) (by omega)]
 dsimp only
 unfold validS at hv
 rw [if_pos hv, bBuf_len, Nat.add_assoc]
theorem wb_many {α : Type} {g : Rg α} {f : α → List UInt8} : ∀ (L : List α), (∀ x ∈ L, WB (f x) g x) → WB (L.flatMap f) (gMany g L.length) L
 | [], _ => fun _ _ _ => rfl
 | x :: r, hg => by
   rw [List.flatMap_cons, zM]
   exact (hg x (by simp)).bind ((wb_many r fun y hy => hg y (by simp [hy])).map fun r => x :: r)
theorem wb_get {α : Type} {g : Rg α} {f : α → List UInt8} {most : Int} {least : Nat} (L : List α) (hg : ∀ x ∈ L, WB (f x) g x) (hn : (L.length : Int) ≤ most) (hm : most ≤ 2147483647) (h0 : 0 < least) (hl : ∀ x ∈ L, least ≤ (f x).length) : WB (bInt L.length ++ L.flatMap f) (gGet most least g) L := by
 unfold gGet
 intro l p ha
 have hc : gCount most least l p = .inl (L.length, p + 4) := by
  unfold gCount
  rw [size_atb ha.left (by omega) hn]
  dsimp only
  rw [if_neg]
  have h1 := ha.right.1
  rw [bInt_len] at h1
  have h2 : least * L.length ≤ (L.flatMap f).length := by
   clear ha hg hn h1
   induction L with
   | nil => simp
   | cons x r ih =>
     have e1 := hl x (by simp)
     have e2 := ih (fun y hy => hl y (by simp [hy]))
     rw [List.flatMap_cons, zG, zM, Nat.mul_add]
     omega
  intro ⟨_, h3⟩
  have h4 : least * L.length ≤ l.length - (p + 4) := by omega
  have h5 : L.length ≤ (l.length - (p + 4)) / least := (Nat.le_div_iff_mul_le h0).2 (by rw [Nat.mul_comm]; exact h4)
  have h6 : (((l.length - (p + 4)) / least : Nat) : Int) = ((l.length - (p + 4) : Nat) : Int) / (least : Int) := Int.natCast_ediv _ _
  omega
 have h2 := ha.right
 rw [bInt_len] at h2
 rw [gb_ev hc, wb_many L hg l _ h2, zG, bInt_len, Nat.add_assoc]
theorem wb_id {x : ByteArray × ByteArray} (h1 : longI x = false) (h2 : oddI x = false) : WB (pIdB x) gIdO x := by
 obtain ⟨s, i⟩ := x
 unfold longI at h1
 unfold oddI at h2
 simp only [Bool.or_eq_false_iff, decide_eq_false_iff_not, Bool.not_eq_false'] at h1 h2
 have h := (wb_text (s := s) (most := 256) (by omega) (by omega) h2.1).bind (g := fun s => (gText 256).map fun i => (bs s, bs i)) ((wb_text (s := i) (most := 256) (by omega) (by omega) h2.2).map fun i' => (bs s.data.toList, bs i'))
 rw [obs_of, obs_of] at h
 exact h
theorem wb_acl {x : AclT} (h0 : (Lit.int .i32 x.1).wf = true) (h1 : longI x.2 = false) (h2 : oddI x.2 = false) : WB (pAclB x) gAcl x :=
 (wb_int h0).bind (g := fun z => gIdO.map fun i => (z, i)) ((wb_id h1 h2).map fun i => (x.1, i))
theorem pIdB_least (x : ByteArray × ByteArray) : 8 ≤ (pIdB x).length := by
 unfold pIdB
 rw [zG, bBuf_len, bBuf_len]
 omega
theorem pAclB_least (x : AclT) : 12 ≤ (pAclB x).length := by
 have := pIdB_least x.2
 unfold pAclB
 rw [zG, bInt_len]
 omega
theorem wb_ids {L : List (ByteArray × ByteArray)} (hn : L.length ≤ 16) (h : ∀ x ∈ L, longI x = false ∧ oddI x = false) : WB (bInt L.length ++ pIdsB L) (gGet 16 8 gIdO) L :=
 wb_get (least := 8) L (fun x hx => wb_id (h x hx).1 (h x hx).2) (by omega) (by omega) (by omega) (fun x _ => pIdB_least x)
theorem wb_acls {L : List AclT} (hn : L.length ≤ 16) (h : ∀ x ∈ L, longI x.2 = false ∧ oddI x.2 = false) (hw : ∀ x ∈ L, (Lit.int .i32 x.1).wf = true) : WB (bInt L.length ++ pAclsB L) (gGet 16 12 gAcl) L :=
 wb_get (least := 12) L (fun x hx => wb_acl (hw x hx) (h x hx).1 (h x hx).2) (by omega) (by omega) (by omega) (fun x _ => pAclB_least x)
theorem wb_texts {L : List ByteArray} (hn : L.length ≤ 1024) (h : ∀ s ∈ L, s.size ≤ 4096 ∧ validS s = true) : WB (bInt L.length ++ bTexts L) gTexts (L.map fun s => s.data.toList) := by
 have hh := wb_get (g := gText 4096) (f := bBuf) (most := 1024) (least := 4) (L.map fun s => s.data.toList) (fun x hx => by
  obtain ⟨s, hs, rfl⟩ := List.mem_map.1 hx
  exact wb_text (by have := (h s hs).1; omega) (by omega) (h s hs).2) (by rw [List.length_map]; omega) (by omega) (by omega) (fun x _ => by rw [bBuf_len]; omega)
 rw [List.length_map, List.flatMap_map] at hh
 exact hh
theorem map_bs (L : List ByteArray) : (L.map fun s => s.data.toList).map bs = L := by
 rw [List.map_map]
 conv => rhs; rw [← List.map_id L]
 exact List.map_congr_left fun s _ => obs_of s
structure OwnOk (f : OpF) (n : Nat) : Prop where
 kind : kindN f.t ≠ 0
 p : f.p.size ≤ 4096
 l : f.l.length ≤ 1048575
 L : f.L.length ≤ 16
 I : f.I.length ≤ 16
 lists : ∀ K ∈ f.lists, K.length ≤ 1024
 texts : ∀ s ∈ f.texts, s.size ≤ 4096 ∧ validS s = true
 many : f.t = 22 → n ≤ 1024
 ids : ∀ x ∈ f.ids, longI x = false ∧ oddI x = false
 pv : validS f.p = true
 kept : keptF f = f
 none : f.t ∉ tS → n = 0
theorem plain_eq {f g : OpF} : plainB f g = true ↔ f = g := by
 obtain ⟨t, p, l, L, fl, ve, wa, ct, by_, tl, zx, K0, K1, K2, K3, K4, to_, I⟩ := f
 obtain ⟨t', p', l', L', fl', ve', wa', ct', by_', tl', zx', K0', K1', K2', K3', K4', to_', I'⟩ := g
 unfold plainB OpF.lists
 simp only [Bool.and_eq_true, beq_iff_eq, decide_eq_true_eq, toL_iff, OpF.mk.injEq, List.cons.injEq, and_true]
 constructor
 · rintro ⟨⟨⟨⟨⟨⟨⟨⟨⟨⟨⟨⟨⟨h1, h2⟩, h3⟩, h4⟩, h5⟩, h6⟩, h7⟩, h8⟩, h9⟩, h10⟩, h11⟩, h12⟩, h13⟩, h14, h15, h16, h17, h18⟩
   exact ⟨h1, h2, h3, h4, h5, h6, h7, h8, h9, h12, h13, h14, h15, h16, h17, h18, h10, h11⟩
 · rintro ⟨h1, h2, h3, h4, h5, h6, h7, h8, h9, h12, h13, h14, h15, h16, h17, h18, h10, h11⟩
   exact ⟨⟨⟨⟨⟨⟨⟨⟨⟨⟨⟨⟨⟨h1, h2⟩, h3⟩, h4⟩, h5⟩, h6⟩, h7⟩, h8⟩, h9⟩, h10⟩, h11⟩, h12⟩, h13⟩, h14, h15, h16, h17, h18⟩
theorem own_ok {f : OpF} {n : Nat} : ownE f n = 0 ↔ OwnOk f n := by
 have hs : ((n : Int) != ((if f.t ∈ tS then n else 0 : Nat) : Int)) = false ↔ (f.t ∉ tS → n = 0) := by
  by_cases h : f.t ∈ tS
  · simp [h]
  · simp [h]
 unfold ownE
 constructor
 · intro h
   split at h
   · cases h
   rename_i h0
   split at h
   · cases h
   rename_i h1
   split at h
   · cases h
   rename_i h2
   simp only [bigB, manyB, oddB, longP, oddP, Bool.not_eq_true, Bool.or_eq_false_iff, decide_eq_false_iff_not, List.any_eq_false, Bool.not_eq_false', decide_eq_true_eq, hs, plain_eq, Bool.and_eq_false_iff, beq_eq_false_iff_ne] at h1 h2
   obtain ⟨⟨⟨⟨⟨a1, a2⟩, a3⟩, a4⟩, ⟨⟨a5, a6⟩, a7⟩⟩, a8⟩ := h1
   obtain ⟨⟨⟨⟨b1, b2⟩, b3⟩, b4⟩, b5⟩ := h2
   exact ⟨h0, by omega, by omega, by omega, by omega, fun K hK => by have := a5 K hK; omega, fun s hs => ⟨by have := a6 s hs; omega, by have := b3 s hs; simpa using this⟩, fun h => by
    rcases a7 with a7 | a7
    · exact absurd h a7
    · omega, fun x hx => ⟨by simpa using a8 x hx, by simpa using b2 x hx⟩, b1, b4.symm, b5⟩
 · intro h
   have h1 : bigB f n = false := by
    simp only [bigB, manyB, longP, Bool.or_eq_false_iff, decide_eq_false_iff_not, List.any_eq_false, decide_eq_true_eq, Bool.and_eq_false_iff, beq_eq_false_iff_ne]
    refine ⟨⟨⟨⟨⟨?_, ?_⟩, ?_⟩, ?_⟩, ⟨⟨fun K hK => ?_, fun s hs => ?_⟩, ?_⟩⟩, fun x hx => ?_⟩
    · have := h.p; omega
    · have := h.l; omega
    · have := h.L; omega
    · have := h.I; omega
    · have := h.lists K hK; omega
    · have := (h.texts s hs).1; omega
    · by_cases h22 : f.t = 22
      · right
        have := h.many h22
        omega
      · exact .inl h22
    · rw [(h.ids x hx).1]; simp
   have h2 : oddB f n = false := by
    simp only [oddB, oddP, Bool.or_eq_false_iff, List.any_eq_false, Bool.not_eq_false', hs, plain_eq]
    refine ⟨⟨⟨⟨h.pv, fun x hx => ?_⟩, fun s hs => ?_⟩, h.kept.symm⟩, h.none⟩
    · rw [(h.ids x hx).2]; simp
    · rw [(h.texts s hs).2]; simp
   rw [if_neg h.kind, h1, h2]
   simp

theorem back_g0 {t : Int} (htt : t ∈ ([1, 15, 19] : List Int)) {n : Nat} {p : ByteArray} {l : List UInt8} {L : List AclT} {fl : Int} (h : OwnOk ⟨t, p, l, L, fl, 0, false, 0, 0, 0, 0, [], [], [], [], [], 0, []⟩ n) (ok : OpF.Ok ⟨t, p, l, L, fl, 0, false, 0, 0, 0, 0, [], [], [], [], [], 0, []⟩) : WB (bBuf p.data.toList ++ bBuf l ++ (bInt L.length ++ pAclsB L) ++ bInt fl) (gFld t) (⟨t, p, l, L, fl, 0, false, 0, 0, 0, 0, [], [], [], [], [], 0, []⟩ : OpF) := by
 have hg : gFld t = (gText 4096).bind fun x1 => (gBuf 1048575).bind fun x2 => (gGet 16 12 gAcl).bind fun x3 => (gInt).bind fun x4 => Rg.ret ({ { { { zF t with p := bs x1 } with l := x2 } with L := x3 } with fl := x4 } : OpF) := by
  unfold gFld
  simp only [zH, zI, or_false] at htt
  rcases htt with rfl | rfl | rfl <;> rfl
 rw [hg]
 have hc : WB (bBuf p.data.toList ++ (bBuf l ++ ((bInt L.length ++ pAclsB L) ++ (bInt fl)))) ((gText 4096).bind fun x1 => (gBuf 1048575).bind fun x2 => (gGet 16 12 gAcl).bind fun x3 => (gInt).bind fun x4 => Rg.ret ({ { { { zF t with p := bs x1 } with l := x2 } with L := x3 } with fl := x4 } : OpF)) (⟨t, p, l, L, fl, 0, false, 0, 0, 0, 0, [], [], [], [], [], 0, []⟩ : OpF) := by
  refine (wb_text (s := p) (most := 4096) (by have := h.p; dsimp only at this; omega) (by omega) h.pv).bind ((wb_buf (b := l) (most := 1048575) (by have := h.l; dsimp only at this; omega) (by omega)).bind ((wb_acls h.L (fun x hx => h.ids x.2 (List.mem_append_right _ (List.mem_map_of_mem hx))) (fun x hx => (ok.acl x hx).1)).bind ((wb_int ok.fl).last ?_)))
  rw [obs_of]
  rfl
 simp only [zL] at hc ⊢
 exact hc
theorem back_g1 {t : Int} (htt : t ∈ ([21] : List Int)) {n : Nat} {p : ByteArray} {l : List UInt8} {L : List AclT} {fl : Int} {tl : Int} (h : OwnOk ⟨t, p, l, L, fl, 0, false, 0, 0, tl, 0, [], [], [], [], [], 0, []⟩ n) (ok : OpF.Ok ⟨t, p, l, L, fl, 0, false, 0, 0, tl, 0, [], [], [], [], [], 0, []⟩) : WB (bBuf p.data.toList ++ bBuf l ++ (bInt L.length ++ pAclsB L) ++ bInt fl ++ bLong tl) (gFld t) (⟨t, p, l, L, fl, 0, false, 0, 0, tl, 0, [], [], [], [], [], 0, []⟩ : OpF) := by
 have hg : gFld t = (gText 4096).bind fun x1 => (gBuf 1048575).bind fun x2 => (gGet 16 12 gAcl).bind fun x3 => (gInt).bind fun x4 => (gLong).bind fun x5 => Rg.ret ({ { { { { zF t with p := bs x1 } with l := x2 } with L := x3 } with fl := x4 } with tl := x5 } : OpF) := by
  unfold gFld
  simp only [zH, zI, or_false] at htt
  rcases htt with rfl <;> rfl
 rw [hg]
 have hc : WB (bBuf p.data.toList ++ (bBuf l ++ ((bInt L.length ++ pAclsB L) ++ (bInt fl ++ (bLong tl))))) ((gText 4096).bind fun x1 => (gBuf 1048575).bind fun x2 => (gGet 16 12 gAcl).bind fun x3 => (gInt).bind fun x4 => (gLong).bind fun x5 => Rg.ret ({ { { { { zF t with p := bs x1 } with l := x2 } with L := x3 } with fl := x4 } with tl := x5 } : OpF)) (⟨t, p, l, L, fl, 0, false, 0, 0, tl, 0, [], [], [], [], [], 0, []⟩ : OpF) := by
  refine (wb_text (s := p) (most := 4096) (by have := h.p; dsimp only at this; omega) (by omega) h.pv).bind ((wb_buf (b := l) (most := 1048575) (by have := h.l; dsimp only at this; omega) (by omega)).bind ((wb_acls h.L (fun x hx => h.ids x.2 (List.mem_append_right _ (List.mem_map_of_mem hx))) (fun x hx => (ok.acl x hx).1)).bind ((wb_int ok.fl).bind ((wb_long ok.tl).last ?_))))
  rw [obs_of]
  rfl
 simp only [zL] at hc ⊢
 exact hc
theorem back_g2 {t : Int} (htt : t ∈ ([2, 13] : List Int)) {n : Nat} {p : ByteArray} {ve : Int} (h : OwnOk ⟨t, p, [], [], 0, ve, false, 0, 0, 0, 0, [], [], [], [], [], 0, []⟩ n) (ok : OpF.Ok ⟨t, p, [], [], 0, ve, false, 0, 0, 0, 0, [], [], [], [], [], 0, []⟩) : WB (bBuf p.data.toList ++ bInt ve) (gFld t) (⟨t, p, [], [], 0, ve, false, 0, 0, 0, 0, [], [], [], [], [], 0, []⟩ : OpF) := by
 have hg : gFld t = (gText 4096).bind fun x1 => (gInt).bind fun x2 => Rg.ret ({ { zF t with p := bs x1 } with ve := x2 } : OpF) := by
  unfold gFld
  simp only [zH, zI, or_false] at htt
  rcases htt with rfl | rfl <;> rfl
 rw [hg]
 have hc : WB (bBuf p.data.toList ++ (bInt ve)) ((gText 4096).bind fun x1 => (gInt).bind fun x2 => Rg.ret ({ { zF t with p := bs x1 } with ve := x2 } : OpF)) (⟨t, p, [], [], 0, ve, false, 0, 0, 0, 0, [], [], [], [], [], 0, []⟩ : OpF) := by
  refine (wb_text (s := p) (most := 4096) (by have := h.p; dsimp only at this; omega) (by omega) h.pv).bind ((wb_int ok.ve).last ?_)
  rw [obs_of]
  rfl
 simp only [zL] at hc ⊢
 exact hc
theorem back_g3 {t : Int} (htt : t ∈ ([5] : List Int)) {n : Nat} {p : ByteArray} {l : List UInt8} {ve : Int} (h : OwnOk ⟨t, p, l, [], 0, ve, false, 0, 0, 0, 0, [], [], [], [], [], 0, []⟩ n) (ok : OpF.Ok ⟨t, p, l, [], 0, ve, false, 0, 0, 0, 0, [], [], [], [], [], 0, []⟩) : WB (bBuf p.data.toList ++ bBuf l ++ bInt ve) (gFld t) (⟨t, p, l, [], 0, ve, false, 0, 0, 0, 0, [], [], [], [], [], 0, []⟩ : OpF) := by
 have hg : gFld t = (gText 4096).bind fun x1 => (gBuf 1048575).bind fun x2 => (gInt).bind fun x3 => Rg.ret ({ { { zF t with p := bs x1 } with l := x2 } with ve := x3 } : OpF) := by
  unfold gFld
  simp only [zH, zI, or_false] at htt
  rcases htt with rfl <;> rfl
 rw [hg]
 have hc : WB (bBuf p.data.toList ++ (bBuf l ++ (bInt ve))) ((gText 4096).bind fun x1 => (gBuf 1048575).bind fun x2 => (gInt).bind fun x3 => Rg.ret ({ { { zF t with p := bs x1 } with l := x2 } with ve := x3 } : OpF)) (⟨t, p, l, [], 0, ve, false, 0, 0, 0, 0, [], [], [], [], [], 0, []⟩ : OpF) := by
  refine (wb_text (s := p) (most := 4096) (by have := h.p; dsimp only at this; omega) (by omega) h.pv).bind ((wb_buf (b := l) (most := 1048575) (by have := h.l; dsimp only at this; omega) (by omega)).bind ((wb_int ok.ve).last ?_))
  rw [obs_of]
  rfl
 simp only [zL] at hc ⊢
 exact hc
theorem back_g4 {t : Int} (htt : t ∈ ([7] : List Int)) {n : Nat} {p : ByteArray} {L : List AclT} {ve : Int} (h : OwnOk ⟨t, p, [], L, 0, ve, false, 0, 0, 0, 0, [], [], [], [], [], 0, []⟩ n) (ok : OpF.Ok ⟨t, p, [], L, 0, ve, false, 0, 0, 0, 0, [], [], [], [], [], 0, []⟩) : WB (bBuf p.data.toList ++ (bInt L.length ++ pAclsB L) ++ bInt ve) (gFld t) (⟨t, p, [], L, 0, ve, false, 0, 0, 0, 0, [], [], [], [], [], 0, []⟩ : OpF) := by
 have hg : gFld t = (gText 4096).bind fun x1 => (gGet 16 12 gAcl).bind fun x2 => (gInt).bind fun x3 => Rg.ret ({ { { zF t with p := bs x1 } with L := x2 } with ve := x3 } : OpF) := by
  unfold gFld
  simp only [zH, zI, or_false] at htt
  rcases htt with rfl <;> rfl
 rw [hg]
 have hc : WB (bBuf p.data.toList ++ ((bInt L.length ++ pAclsB L) ++ (bInt ve))) ((gText 4096).bind fun x1 => (gGet 16 12 gAcl).bind fun x2 => (gInt).bind fun x3 => Rg.ret ({ { { zF t with p := bs x1 } with L := x2 } with ve := x3 } : OpF)) (⟨t, p, [], L, 0, ve, false, 0, 0, 0, 0, [], [], [], [], [], 0, []⟩ : OpF) := by
  refine (wb_text (s := p) (most := 4096) (by have := h.p; dsimp only at this; omega) (by omega) h.pv).bind ((wb_acls h.L (fun x hx => h.ids x.2 (List.mem_append_right _ (List.mem_map_of_mem hx))) (fun x hx => (ok.acl x hx).1)).bind ((wb_int ok.ve).last ?_))
  rw [obs_of]
  rfl
 simp only [zL] at hc ⊢
 exact hc
theorem back_g5 {t : Int} (htt : t ∈ ([120] : List Int)) {n : Nat} {p : ByteArray} {ct : Int} {by_ : Int} (h : OwnOk ⟨t, p, [], [], 0, 0, false, ct, by_, 0, 0, [], [], [], [], [], 0, []⟩ n) (ok : OpF.Ok ⟨t, p, [], [], 0, 0, false, ct, by_, 0, 0, [], [], [], [], [], 0, []⟩) : WB (bBuf p.data.toList ++ bLong ct ++ bLong by_) (gFld t) (⟨t, p, [], [], 0, 0, false, ct, by_, 0, 0, [], [], [], [], [], 0, []⟩ : OpF) := by
 have hg : gFld t = (gText 4096).bind fun x1 => (gLong).bind fun x2 => (gLong).bind fun x3 => Rg.ret ({ { { zF t with p := bs x1 } with ct := x2 } with by_ := x3 } : OpF) := by
  unfold gFld
  simp only [zH, zI, or_false] at htt
  rcases htt with rfl <;> rfl
 rw [hg]
 have hc : WB (bBuf p.data.toList ++ (bLong ct ++ (bLong by_))) ((gText 4096).bind fun x1 => (gLong).bind fun x2 => (gLong).bind fun x3 => Rg.ret ({ { { zF t with p := bs x1 } with ct := x2 } with by_ := x3 } : OpF)) (⟨t, p, [], [], 0, 0, false, ct, by_, 0, 0, [], [], [], [], [], 0, []⟩ : OpF) := by
  refine (wb_text (s := p) (most := 4096) (by have := h.p; dsimp only at this; omega) (by omega) h.pv).bind ((wb_long ok.ct).bind ((wb_long ok.by_).last ?_))
  rw [obs_of]
  rfl
 simp only [zL] at hc ⊢
 exact hc
theorem back_g6 {t : Int} (htt : t ∈ ([121, 6, 9, 103, 104] : List Int)) {n : Nat} {p : ByteArray} (h : OwnOk ⟨t, p, [], [], 0, 0, false, 0, 0, 0, 0, [], [], [], [], [], 0, []⟩ n) (ok : OpF.Ok ⟨t, p, [], [], 0, 0, false, 0, 0, 0, 0, [], [], [], [], [], 0, []⟩) : WB (bBuf p.data.toList) (gFld t) (⟨t, p, [], [], 0, 0, false, 0, 0, 0, 0, [], [], [], [], [], 0, []⟩ : OpF) := by
 have hg : gFld t = (gText 4096).bind fun x1 => Rg.ret ({ zF t with p := bs x1 } : OpF) := by
  unfold gFld
  simp only [zH, zI, or_false] at htt
  rcases htt with rfl | rfl | rfl | rfl | rfl <;> rfl
 rw [hg]
 have hc : WB (bBuf p.data.toList) ((gText 4096).bind fun x1 => Rg.ret ({ zF t with p := bs x1 } : OpF)) (⟨t, p, [], [], 0, 0, false, 0, 0, 0, 0, [], [], [], [], [], 0, []⟩ : OpF) := by
  refine (wb_text (s := p) (most := 4096) (by have := h.p; dsimp only at this; omega) (by omega) h.pv).last ?_
  rw [obs_of]
  rfl
 simp only [zL] at hc ⊢
 exact hc
theorem back_g7 {t : Int} (htt : t ∈ ([3, 4, 8, 12] : List Int)) {n : Nat} {p : ByteArray} {wa : Bool} (h : OwnOk ⟨t, p, [], [], 0, 0, wa, 0, 0, 0, 0, [], [], [], [], [], 0, []⟩ n) (ok : OpF.Ok ⟨t, p, [], [], 0, 0, wa, 0, 0, 0, 0, [], [], [], [], [], 0, []⟩) : WB (bBuf p.data.toList ++ bBool wa) (gFld t) (⟨t, p, [], [], 0, 0, wa, 0, 0, 0, 0, [], [], [], [], [], 0, []⟩ : OpF) := by
 have hg : gFld t = (gText 4096).bind fun x1 => (gBool).bind fun x2 => Rg.ret ({ { zF t with p := bs x1 } with wa := x2 } : OpF) := by
  unfold gFld
  simp only [zH, zI, or_false] at htt
  rcases htt with rfl | rfl | rfl | rfl <;> rfl
 rw [hg]
 have hc : WB (bBuf p.data.toList ++ (bBool wa)) ((gText 4096).bind fun x1 => (gBool).bind fun x2 => Rg.ret ({ { zF t with p := bs x1 } with wa := x2 } : OpF)) (⟨t, p, [], [], 0, 0, wa, 0, 0, 0, 0, [], [], [], [], [], 0, []⟩ : OpF) := by
  refine (wb_text (s := p) (most := 4096) (by have := h.p; dsimp only at this; omega) (by omega) h.pv).bind ((wb_bool wa).last ?_)
  rw [obs_of]
  rfl
 simp only [zL] at hc ⊢
 exact hc
theorem back_g8 {t : Int} (htt : t ∈ ([106, 18] : List Int)) {n : Nat} {p : ByteArray} {fl : Int} (h : OwnOk ⟨t, p, [], [], fl, 0, false, 0, 0, 0, 0, [], [], [], [], [], 0, []⟩ n) (ok : OpF.Ok ⟨t, p, [], [], fl, 0, false, 0, 0, 0, 0, [], [], [], [], [], 0, []⟩) : WB (bBuf p.data.toList ++ bInt fl) (gFld t) (⟨t, p, [], [], fl, 0, false, 0, 0, 0, 0, [], [], [], [], [], 0, []⟩ : OpF) := by
 have hg : gFld t = (gText 4096).bind fun x1 => (gInt).bind fun x2 => Rg.ret ({ { zF t with p := bs x1 } with fl := x2 } : OpF) := by
  unfold gFld
  simp only [zH, zI, or_false] at htt
  rcases htt with rfl | rfl <;> rfl
 rw [hg]
 have hc : WB (bBuf p.data.toList ++ (bInt fl)) ((gText 4096).bind fun x1 => (gInt).bind fun x2 => Rg.ret ({ { zF t with p := bs x1 } with fl := x2 } : OpF)) (⟨t, p, [], [], fl, 0, false, 0, 0, 0, 0, [], [], [], [], [], 0, []⟩ : OpF) := by
  refine (wb_text (s := p) (most := 4096) (by have := h.p; dsimp only at this; omega) (by omega) h.pv).bind ((wb_int ok.fl).last ?_)
  rw [obs_of]
  rfl
 simp only [zL] at hc ⊢
 exact hc
theorem back_g9 {t : Int} (htt : t ∈ ([(-10)] : List Int)) {n : Nat} {to_ : Int} {I : List (ByteArray × ByteArray)} (h : OwnOk ⟨t, ⟨#[]⟩, [], [], 0, 0, false, 0, 0, 0, 0, [], [], [], [], [], to_, I⟩ n) (ok : OpF.Ok ⟨t, ⟨#[]⟩, [], [], 0, 0, false, 0, 0, 0, 0, [], [], [], [], [], to_, I⟩) : WB (bInt to_ ++ (bInt I.length ++ pIdsB I)) (gFld t) (⟨t, ⟨#[]⟩, [], [], 0, 0, false, 0, 0, 0, 0, [], [], [], [], [], to_, I⟩ : OpF) := by
 have hg : gFld t = (gInt).bind fun x1 => (gGet 16 8 gIdO).bind fun x2 => Rg.ret ({ (⟨(zF t).t, (zF t).p, (zF t).l, (zF t).L, (zF t).fl, (zF t).ve, (zF t).wa, (zF t).ct, (zF t).by_, (zF t).tl, (zF t).zx, (zF t).K0, (zF t).K1, (zF t).K2, (zF t).K3, (zF t).K4, x1, (zF t).I⟩ : OpF) with I := x2 } : OpF) := by
  unfold gFld
  simp only [zH, zI, or_false] at htt
  rcases htt with rfl <;> rfl
 rw [hg]
 have hc : WB (bInt to_ ++ ((bInt I.length ++ pIdsB I))) ((gInt).bind fun x1 => (gGet 16 8 gIdO).bind fun x2 => Rg.ret ({ (⟨(zF t).t, (zF t).p, (zF t).l, (zF t).L, (zF t).fl, (zF t).ve, (zF t).wa, (zF t).ct, (zF t).by_, (zF t).tl, (zF t).zx, (zF t).K0, (zF t).K1, (zF t).K2, (zF t).K3, (zF t).K4, x1, (zF t).I⟩ : OpF) with I := x2 } : OpF)) (⟨t, ⟨#[]⟩, [], [], 0, 0, false, 0, 0, 0, 0, [], [], [], [], [], to_, I⟩ : OpF) := by
  refine (wb_int ok.to).bind ((wb_ids h.I (fun x hx => h.ids x (List.mem_append_left _ hx))).last ?_)
  rfl
 simp only [zL] at hc ⊢
 exact hc
theorem back_g10 {t : Int} (htt : t ∈ ([(-11), 11, 107] : List Int)) {n : Nat}  (h : OwnOk ⟨t, ⟨#[]⟩, [], [], 0, 0, false, 0, 0, 0, 0, [], [], [], [], [], 0, []⟩ n) (ok : OpF.Ok ⟨t, ⟨#[]⟩, [], [], 0, 0, false, 0, 0, 0, 0, [], [], [], [], [], 0, []⟩) : WB ([]) (gFld t) (⟨t, ⟨#[]⟩, [], [], 0, 0, false, 0, 0, 0, 0, [], [], [], [], [], 0, []⟩ : OpF) := by
 have hg : gFld t = Rg.ret (zF t : OpF) := by
  unfold gFld
  simp only [zH, zI, or_false] at htt
  rcases htt with rfl | rfl | rfl <;> rfl
 rw [hg]
 exact WB.ret (zF t)
theorem fld_back {f : OpF} {n : Nat} (h : OwnOk f n) (ok : f.Ok) (h14 : f.t ≠ 14) (h22 : f.t ≠ 22) (h101 : f.t ≠ 101) (h5 : kindN f.t ≠ 5) : WB (fldB f) (gFld f.t) f := by
 obtain ⟨t, p, l, L, fl, ve, wa, ct, by_, tl, zx, K0, K1, K2, K3, K4, to_, I⟩ := f
 have hk := h.kept
 have htt := kind_types h.kind
 dsimp only at h14 h22 h101 h5 htt
 simp only [ownTypes, zH, zI, or_false] at htt
 rcases htt with rfl | rfl | rfl | rfl | rfl | rfl | rfl | rfl | rfl | rfl | rfl | rfl | rfl | rfl | rfl | rfl | rfl | rfl | rfl | rfl | rfl | rfl | rfl | rfl | rfl | rfl | rfl | rfl
 · have e : keptF ⟨1, p, l, L, fl, ve, wa, ct, by_, tl, zx, K0, K1, K2, K3, K4, to_, I⟩ = ⟨1, p, l, L, fl, 0, false, 0, 0, 0, 0, [], [], [], [], [], 0, []⟩ := rfl
   rw [e] at hk
   simp only [OpF.mk.injEq, true_and, and_true] at hk
   obtain ⟨rfl, rfl, rfl, rfl, rfl, rfl, rfl, rfl, rfl, rfl, rfl, rfl, rfl⟩ := hk
   exact back_g0 (t := 1) (by decide) h ok
 · have e : keptF ⟨15, p, l, L, fl, ve, wa, ct, by_, tl, zx, K0, K1, K2, K3, K4, to_, I⟩ = ⟨15, p, l, L, fl, 0, false, 0, 0, 0, 0, [], [], [], [], [], 0, []⟩ := rfl
   rw [e] at hk
   simp only [OpF.mk.injEq, true_and, and_true] at hk
   obtain ⟨rfl, rfl, rfl, rfl, rfl, rfl, rfl, rfl, rfl, rfl, rfl, rfl, rfl⟩ := hk
   exact back_g0 (t := 15) (by decide) h ok
 · have e : keptF ⟨19, p, l, L, fl, ve, wa, ct, by_, tl, zx, K0, K1, K2, K3, K4, to_, I⟩ = ⟨19, p, l, L, fl, 0, false, 0, 0, 0, 0, [], [], [], [], [], 0, []⟩ := rfl
   rw [e] at hk
   simp only [OpF.mk.injEq, true_and, and_true] at hk
   obtain ⟨rfl, rfl, rfl, rfl, rfl, rfl, rfl, rfl, rfl, rfl, rfl, rfl, rfl⟩ := hk
   exact back_g0 (t := 19) (by decide) h ok
 · have e : keptF ⟨21, p, l, L, fl, ve, wa, ct, by_, tl, zx, K0, K1, K2, K3, K4, to_, I⟩ = ⟨21, p, l, L, fl, 0, false, 0, 0, tl, 0, [], [], [], [], [], 0, []⟩ := rfl
   rw [e] at hk
   simp only [OpF.mk.injEq, true_and, and_true] at hk
   obtain ⟨rfl, rfl, rfl, rfl, rfl, rfl, rfl, rfl, rfl, rfl, rfl, rfl⟩ := hk
   exact back_g1 (t := 21) (by decide) h ok
 · have e : keptF ⟨2, p, l, L, fl, ve, wa, ct, by_, tl, zx, K0, K1, K2, K3, K4, to_, I⟩ = ⟨2, p, [], [], 0, ve, false, 0, 0, 0, 0, [], [], [], [], [], 0, []⟩ := rfl
   rw [e] at hk
   simp only [OpF.mk.injEq, true_and, and_true] at hk
   obtain ⟨rfl, rfl, rfl, rfl, rfl, rfl, rfl, rfl, rfl, rfl, rfl, rfl, rfl, rfl, rfl⟩ := hk
   exact back_g2 (t := 2) (by decide) h ok
 · have e : keptF ⟨13, p, l, L, fl, ve, wa, ct, by_, tl, zx, K0, K1, K2, K3, K4, to_, I⟩ = ⟨13, p, [], [], 0, ve, false, 0, 0, 0, 0, [], [], [], [], [], 0, []⟩ := rfl
   rw [e] at hk
   simp only [OpF.mk.injEq, true_and, and_true] at hk
   obtain ⟨rfl, rfl, rfl, rfl, rfl, rfl, rfl, rfl, rfl, rfl, rfl, rfl, rfl, rfl, rfl⟩ := hk
   exact back_g2 (t := 13) (by decide) h ok
 · have e : keptF ⟨5, p, l, L, fl, ve, wa, ct, by_, tl, zx, K0, K1, K2, K3, K4, to_, I⟩ = ⟨5, p, l, [], 0, ve, false, 0, 0, 0, 0, [], [], [], [], [], 0, []⟩ := rfl
   rw [e] at hk
   simp only [OpF.mk.injEq, true_and, and_true] at hk
   obtain ⟨rfl, rfl, rfl, rfl, rfl, rfl, rfl, rfl, rfl, rfl, rfl, rfl, rfl, rfl⟩ := hk
   exact back_g3 (t := 5) (by decide) h ok
 · have e : keptF ⟨7, p, l, L, fl, ve, wa, ct, by_, tl, zx, K0, K1, K2, K3, K4, to_, I⟩ = ⟨7, p, [], L, 0, ve, false, 0, 0, 0, 0, [], [], [], [], [], 0, []⟩ := rfl
   rw [e] at hk
   simp only [OpF.mk.injEq, true_and, and_true] at hk
   obtain ⟨rfl, rfl, rfl, rfl, rfl, rfl, rfl, rfl, rfl, rfl, rfl, rfl, rfl, rfl⟩ := hk
   exact back_g4 (t := 7) (by decide) h ok
 · have e : keptF ⟨120, p, l, L, fl, ve, wa, ct, by_, tl, zx, K0, K1, K2, K3, K4, to_, I⟩ = ⟨120, p, [], [], 0, 0, false, ct, by_, 0, 0, [], [], [], [], [], 0, []⟩ := rfl
   rw [e] at hk
   simp only [OpF.mk.injEq, true_and, and_true] at hk
   obtain ⟨rfl, rfl, rfl, rfl, rfl, rfl, rfl, rfl, rfl, rfl, rfl, rfl, rfl, rfl⟩ := hk
   exact back_g5 (t := 120) (by decide) h ok
 · have e : keptF ⟨121, p, l, L, fl, ve, wa, ct, by_, tl, zx, K0, K1, K2, K3, K4, to_, I⟩ = ⟨121, p, [], [], 0, 0, false, 0, 0, 0, 0, [], [], [], [], [], 0, []⟩ := rfl
   rw [e] at hk
   simp only [OpF.mk.injEq, true_and, and_true] at hk
   obtain ⟨rfl, rfl, rfl, rfl, rfl, rfl, rfl, rfl, rfl, rfl, rfl, rfl, rfl, rfl, rfl, rfl⟩ := hk
   exact back_g6 (t := 121) (by decide) h ok
 · exact absurd rfl h14
 · have e : keptF ⟨(-10), p, l, L, fl, ve, wa, ct, by_, tl, zx, K0, K1, K2, K3, K4, to_, I⟩ = ⟨(-10), ⟨#[]⟩, [], [], 0, 0, false, 0, 0, 0, 0, [], [], [], [], [], to_, I⟩ := rfl
   rw [e] at hk
   simp only [OpF.mk.injEq, true_and, and_true] at hk
   obtain ⟨rfl, rfl, rfl, rfl, rfl, rfl, rfl, rfl, rfl, rfl, rfl, rfl, rfl, rfl, rfl⟩ := hk
   exact back_g9 (t := (-10)) (by decide) h ok
 · have e : keptF ⟨(-11), p, l, L, fl, ve, wa, ct, by_, tl, zx, K0, K1, K2, K3, K4, to_, I⟩ = ⟨(-11), ⟨#[]⟩, [], [], 0, 0, false, 0, 0, 0, 0, [], [], [], [], [], 0, []⟩ := rfl
   rw [e] at hk
   simp only [OpF.mk.injEq, true_and, and_true] at hk
   obtain ⟨rfl, rfl, rfl, rfl, rfl, rfl, rfl, rfl, rfl, rfl, rfl, rfl, rfl, rfl, rfl, rfl, rfl⟩ := hk
   exact back_g10 (t := (-11)) (by decide) h ok
 · exact absurd (by decide) h5
 · have e : keptF ⟨3, p, l, L, fl, ve, wa, ct, by_, tl, zx, K0, K1, K2, K3, K4, to_, I⟩ = ⟨3, p, [], [], 0, 0, wa, 0, 0, 0, 0, [], [], [], [], [], 0, []⟩ := rfl
   rw [e] at hk
   simp only [OpF.mk.injEq, true_and, and_true] at hk
   obtain ⟨rfl, rfl, rfl, rfl, rfl, rfl, rfl, rfl, rfl, rfl, rfl, rfl, rfl, rfl, rfl⟩ := hk
   exact back_g7 (t := 3) (by decide) h ok
 · have e : keptF ⟨4, p, l, L, fl, ve, wa, ct, by_, tl, zx, K0, K1, K2, K3, K4, to_, I⟩ = ⟨4, p, [], [], 0, 0, wa, 0, 0, 0, 0, [], [], [], [], [], 0, []⟩ := rfl
   rw [e] at hk
   simp only [OpF.mk.injEq, true_and, and_true] at hk
   obtain ⟨rfl, rfl, rfl, rfl, rfl, rfl, rfl, rfl, rfl, rfl, rfl, rfl, rfl, rfl, rfl⟩ := hk
   exact back_g7 (t := 4) (by decide) h ok
 · have e : keptF ⟨8, p, l, L, fl, ve, wa, ct, by_, tl, zx, K0, K1, K2, K3, K4, to_, I⟩ = ⟨8, p, [], [], 0, 0, wa, 0, 0, 0, 0, [], [], [], [], [], 0, []⟩ := rfl
   rw [e] at hk
   simp only [OpF.mk.injEq, true_and, and_true] at hk
   obtain ⟨rfl, rfl, rfl, rfl, rfl, rfl, rfl, rfl, rfl, rfl, rfl, rfl, rfl, rfl, rfl⟩ := hk
   exact back_g7 (t := 8) (by decide) h ok
 · have e : keptF ⟨12, p, l, L, fl, ve, wa, ct, by_, tl, zx, K0, K1, K2, K3, K4, to_, I⟩ = ⟨12, p, [], [], 0, 0, wa, 0, 0, 0, 0, [], [], [], [], [], 0, []⟩ := rfl
   rw [e] at hk
   simp only [OpF.mk.injEq, true_and, and_true] at hk
   obtain ⟨rfl, rfl, rfl, rfl, rfl, rfl, rfl, rfl, rfl, rfl, rfl, rfl, rfl, rfl, rfl⟩ := hk
   exact back_g7 (t := 12) (by decide) h ok
 · have e : keptF ⟨6, p, l, L, fl, ve, wa, ct, by_, tl, zx, K0, K1, K2, K3, K4, to_, I⟩ = ⟨6, p, [], [], 0, 0, false, 0, 0, 0, 0, [], [], [], [], [], 0, []⟩ := rfl
   rw [e] at hk
   simp only [OpF.mk.injEq, true_and, and_true] at hk
   obtain ⟨rfl, rfl, rfl, rfl, rfl, rfl, rfl, rfl, rfl, rfl, rfl, rfl, rfl, rfl, rfl, rfl⟩ := hk
   exact back_g6 (t := 6) (by decide) h ok
 · have e : keptF ⟨9, p, l, L, fl, ve, wa, ct, by_, tl, zx, K0, K1, K2, K3, K4, to_, I⟩ = ⟨9, p, [], [], 0, 0, false, 0, 0, 0, 0, [], [], [], [], [], 0, []⟩ := rfl
   rw [e] at hk
   simp only [OpF.mk.injEq, true_and, and_true] at hk
   obtain ⟨rfl, rfl, rfl, rfl, rfl, rfl, rfl, rfl, rfl, rfl, rfl, rfl, rfl, rfl, rfl, rfl⟩ := hk
   exact back_g6 (t := 9) (by decide) h ok
 · have e : keptF ⟨103, p, l, L, fl, ve, wa, ct, by_, tl, zx, K0, K1, K2, K3, K4, to_, I⟩ = ⟨103, p, [], [], 0, 0, false, 0, 0, 0, 0, [], [], [], [], [], 0, []⟩ := rfl
   rw [e] at hk
   simp only [OpF.mk.injEq, true_and, and_true] at hk
   obtain ⟨rfl, rfl, rfl, rfl, rfl, rfl, rfl, rfl, rfl, rfl, rfl, rfl, rfl, rfl, rfl, rfl⟩ := hk
   exact back_g6 (t := 103) (by decide) h ok
 · have e : keptF ⟨104, p, l, L, fl, ve, wa, ct, by_, tl, zx, K0, K1, K2, K3, K4, to_, I⟩ = ⟨104, p, [], [], 0, 0, false, 0, 0, 0, 0, [], [], [], [], [], 0, []⟩ := rfl
   rw [e] at hk
   simp only [OpF.mk.injEq, true_and, and_true] at hk
   obtain ⟨rfl, rfl, rfl, rfl, rfl, rfl, rfl, rfl, rfl, rfl, rfl, rfl, rfl, rfl, rfl, rfl⟩ := hk
   exact back_g6 (t := 104) (by decide) h ok
 · have e : keptF ⟨106, p, l, L, fl, ve, wa, ct, by_, tl, zx, K0, K1, K2, K3, K4, to_, I⟩ = ⟨106, p, [], [], fl, 0, false, 0, 0, 0, 0, [], [], [], [], [], 0, []⟩ := rfl
   rw [e] at hk
   simp only [OpF.mk.injEq, true_and, and_true] at hk
   obtain ⟨rfl, rfl, rfl, rfl, rfl, rfl, rfl, rfl, rfl, rfl, rfl, rfl, rfl, rfl, rfl⟩ := hk
   exact back_g8 (t := 106) (by decide) h ok
 · have e : keptF ⟨11, p, l, L, fl, ve, wa, ct, by_, tl, zx, K0, K1, K2, K3, K4, to_, I⟩ = ⟨11, ⟨#[]⟩, [], [], 0, 0, false, 0, 0, 0, 0, [], [], [], [], [], 0, []⟩ := rfl
   rw [e] at hk
   simp only [OpF.mk.injEq, true_and, and_true] at hk
   obtain ⟨rfl, rfl, rfl, rfl, rfl, rfl, rfl, rfl, rfl, rfl, rfl, rfl, rfl, rfl, rfl, rfl, rfl⟩ := hk
   exact back_g10 (t := 11) (by decide) h ok
 · have e : keptF ⟨18, p, l, L, fl, ve, wa, ct, by_, tl, zx, K0, K1, K2, K3, K4, to_, I⟩ = ⟨18, p, [], [], fl, 0, false, 0, 0, 0, 0, [], [], [], [], [], 0, []⟩ := rfl
   rw [e] at hk
   simp only [OpF.mk.injEq, true_and, and_true] at hk
   obtain ⟨rfl, rfl, rfl, rfl, rfl, rfl, rfl, rfl, rfl, rfl, rfl, rfl, rfl, rfl, rfl⟩ := hk
   exact back_g8 (t := 18) (by decide) h ok
 · exact absurd rfl h22
 · exact absurd rfl h101
 · have e : keptF ⟨107, p, l, L, fl, ve, wa, ct, by_, tl, zx, K0, K1, K2, K3, K4, to_, I⟩ = ⟨107, ⟨#[]⟩, [], [], 0, 0, false, 0, 0, 0, 0, [], [], [], [], [], 0, []⟩ := rfl
   rw [e] at hk
   simp only [OpF.mk.injEq, true_and, and_true] at hk
   obtain ⟨rfl, rfl, rfl, rfl, rfl, rfl, rfl, rfl, rfl, rfl, rfl, rfl, rfl, rfl, rfl, rfl, rfl⟩ := hk
   exact back_g10 (t := 107) (by decide) h ok
theorem wat_back {f : OpF} {n : Nat} (h : OwnOk f n) (ok : f.Ok) (h101 : f.t = 101) : WB (fldB f) gWat f := by
 obtain ⟨t, p, l, L, fl, ve, wa, ct, by_, tl, zx, K0, K1, K2, K3, K4, to_, I⟩ := f
 have hk := h.kept
 dsimp only at h101
 subst h101
 have e : keptF ⟨101, p, l, L, fl, ve, wa, ct, by_, tl, zx, K0, K1, K2, K3, K4, to_, I⟩ = ⟨101, ⟨#[]⟩, [], [], 0, 0, false, 0, 0, 0, zx, K0, K1, K2, K3, K4, 0, []⟩ := rfl
 rw [e] at hk
 simp only [OpF.mk.injEq, true_and, and_true] at hk
 obtain ⟨rfl, rfl, rfl, rfl, rfl, rfl, rfl, rfl, rfl, rfl, rfl⟩ := hk
 have hl := h.lists
 have ht := h.texts
 unfold OpF.lists at hl
 unfold OpF.texts at ht
 dsimp only at hl ht
 have t0 := wb_texts (L := K0) (hl K0 (by simp)) (fun s hs => ht s (by simp [hs]))
 have t1 := wb_texts (L := K1) (hl K1 (by simp)) (fun s hs => ht s (by simp [hs]))
 have t2 := wb_texts (L := K2) (hl K2 (by simp)) (fun s hs => ht s (by simp [hs]))
 have t3 := wb_texts (L := K3) (hl K3 (by simp)) (fun s hs => ht s (by simp [hs]))
 have t4 := wb_texts (L := K4) (hl K4 (by simp)) (fun s hs => ht s (by simp [hs]))
 have hf : fldB ⟨101, ⟨#[]⟩, [], [], 0, 0, false, 0, 0, 0, zx, K0, K1, K2, K3, K4, 0, []⟩ = bLong zx ++ ((bInt K0.length ++ bTexts K0) ++ ((bInt K1.length ++ bTexts K1) ++ ((bInt K2.length ++ bTexts K2) ++ ((bInt K3.length ++ bTexts K3) ++ (bInt K4.length ++ bTexts K4))))) := by
  show bLong zx ++ pListsB _ = _
  unfold pListsB OpF.lists
  simp only [List.flatMap_cons, List.flatMap_nil, List.append_nil]
 rw [hf]
 refine (wb_long ok.zx).bind (t0.bind (t1.bind (t2.bind (t3.bind (t4.last ?_)))))
 rw [map_bs, map_bs, map_bs, map_bs, map_bs]
 rfl
theorem bool_bk' {l : List UInt8} {p q : Nat} {b : Bool} (h : gBool l p = .inl (b, q)) : Bk l p q (bBool b) := by
 unfold gBool at h
 split at h
 · rename_i n q' hn
   split at h
   · cases h
   · rename_i hle
     simp only [Sum.inl.injEq, Prod.mk.injEq] at h
     obtain ⟨rfl, rfl⟩ := h
     obtain ⟨h1, rfl, h3⟩ := num_back hn
     refine ⟨?_, by omega, h3⟩
     rw [Nat.add_sub_cancel_left, ← h1]
     have hn2 : n = 0 ∨ n = 1 := by omega
     rcases hn2 with rfl | rfl <;> rfl
 · cases h
theorem buf_bk' {most : Int} {l x : List UInt8} {p q : Nat} (h : gBuf most l p = .inl (x, q)) : Bk l p q (bBuf x) := buf_back h
theorem many_fo {α : Type} {g : Rg α} {f : α → List UInt8} {Q : α → Prop} {l : List UInt8} (hg : ∀ x p q, g l p = .inl (x, q) → Bk l p q (f x) ∧ Q x) : ∀ (n p q : Nat) (L : List α), p ≤ l.length → gMany g n l p = .inl (L, q) → Bk l p q (L.flatMap f) ∧ L.length = n ∧ ∀ x ∈ L, Q x
 | 0, p, q, L, hp, h => by
   simp only [gMany, Rg.ret, Sum.inl.injEq, Prod.mk.injEq] at h
   obtain ⟨rfl, rfl⟩ := h
   exact ⟨Bk.nil l p hp, rfl, fun _ h => by cases h⟩
 | n + 1, p, q, L, hp, h => by
   rw [gMany_succ] at h
   split at h
   · rename_i x q1 hx
     split at h
     · rename_i r q2 hr
       simp only [Sum.inl.injEq, Prod.mk.injEq] at h
       obtain ⟨rfl, rfl⟩ := h
       obtain ⟨h1, h2⟩ := hg _ _ _ hx
       obtain ⟨h3, h4, h5⟩ := many_fo hg n q1 q2 r h1.2.2 hr
       rw [List.flatMap_cons, zM, h4]
       exact ⟨h1.app h3, rfl, fun y hy => by
        rcases zH.1 hy with rfl | hy
        · exact h2
        · exact h5 y hy⟩
     · cases h
   · cases h
theorem get_fo {α : Type} {g : Rg α} {f : α → List UInt8} {Q : α → Prop} {l : List UInt8} (hg : ∀ x p q, g l p = .inl (x, q) → Bk l p q (f x) ∧ Q x) {most least : Int} {p q : Nat} {L : List α} (h : gGet most least g l p = .inl (L, q)) : Bk l p q (bInt L.length ++ L.flatMap f) ∧ (L.length : Int) ≤ most ∧ ∀ x ∈ L, Q x := by
 unfold gGet at h
 obtain ⟨n, q1, hc, hm⟩ := bind_inl h
 obtain ⟨c1, c2, c3⟩ := count_back hc
 obtain ⟨h1, h2, h3⟩ := many_fo hg n q1 q L (by omega) hm
 have hb : Bk l p q1 (bInt L.length) := ⟨by rw [h2, c1, c2, Nat.add_sub_cancel_left], by omega, by omega⟩
 exact ⟨hb.app h1, by rw [h2]; exact gCount_most hc, h3⟩
theorem text_fo {most : Int} {l x : List UInt8} {p q : Nat} (h : gText most l p = .inl (x, q)) : Bk l p q (bBuf (bs x).data.toList) ∧ ((bs x).size : Int) ≤ most ∧ validS (bs x) = true := by
 rw [obs_list, bs_size]
 exact ⟨text_back h, gText_most h, by unfold validS; rw [obs_list]; exact (gText_inl h).2⟩
theorem id_fo {l : List UInt8} {p q : Nat} {x : ByteArray × ByteArray} (h : gIdO l p = .inl (x, q)) : Bk l p q (pIdB x) ∧ (longI x = false ∧ oddI x = false) := by
 obtain ⟨s, q1, h1, h⟩ := bind_inl h
 obtain ⟨i, h2, rfl⟩ := map_inl h
 obtain ⟨a1, a2, a3⟩ := text_fo h1
 obtain ⟨b1, b2, b3⟩ := text_fo h2
 refine ⟨a1.app b1, ?_, ?_⟩
 · unfold longI
   simp only [Bool.or_eq_false_iff, decide_eq_false_iff_not]
   constructor <;> omega
 · unfold oddI
   rw [a3, b3]
   rfl
theorem acl_fo {l : List UInt8} {p q : Nat} {x : AclT} (h : gAcl l p = .inl (x, q)) : Bk l p q (pAclB x) ∧ (longI x.2 = false ∧ oddI x.2 = false) := by
 obtain ⟨z, q1, h1, h⟩ := bind_inl h
 obtain ⟨i, h2, rfl⟩ := map_inl h
 obtain ⟨b1, b2⟩ := id_fo h2
 exact ⟨(int_bk h1).app b1, b2⟩
theorem ids_fo {l : List UInt8} {p q : Nat} {L : List (ByteArray × ByteArray)} (h : gGet 16 8 gIdO l p = .inl (L, q)) : Bk l p q (bInt L.length ++ pIdsB L) ∧ L.length ≤ 16 ∧ ∀ x ∈ L, longI x = false ∧ oddI x = false := by
 obtain ⟨h1, h2, h3⟩ := get_fo (fun x p q h => id_fo h) h
 exact ⟨h1, by omega, h3⟩
theorem acls_fo {l : List UInt8} {p q : Nat} {L : List AclT} (h : gGet 16 12 gAcl l p = .inl (L, q)) : Bk l p q (bInt L.length ++ pAclsB L) ∧ L.length ≤ 16 ∧ ∀ x ∈ L, longI x.2 = false ∧ oddI x.2 = false := by
 obtain ⟨h1, h2, h3⟩ := get_fo (fun x p q h => acl_fo h) h
 exact ⟨h1, by omega, h3⟩
theorem texts_fo {l : List UInt8} {p q : Nat} {L : List (List UInt8)} (h : gTexts l p = .inl (L, q)) : Bk l p q (bInt (L.map bs).length ++ bTexts (L.map bs)) ∧ (L.map bs).length ≤ 1024 ∧ ∀ s ∈ L.map bs, s.size ≤ 4096 ∧ validS s = true := by
 obtain ⟨h1, h2, h3⟩ := get_fo (f := fun x => bBuf (bs x).data.toList) (Q := fun x => (bs x).size ≤ 4096 ∧ validS (bs x) = true) (fun x p q h => by
  obtain ⟨a, b, c⟩ := text_fo h
  exact ⟨a, by omega, c⟩) h
 unfold bTexts
 rw [List.length_map, List.flatMap_map]
 refine ⟨h1, by omega, fun s hs => ?_⟩
 obtain ⟨x, hx, rfl⟩ := List.mem_map.1 hs
 exact h3 x hx
theorem empty_valid : validS ⟨#[]⟩ = true := by
 unfold validS
 rfl
theorem forth_g0 {t : Int} (htt : t ∈ ([1, 15, 19] : List Int)) {l : List UInt8} {p q : Nat} {f : OpF} (h : gFld t l p = .inl (f, q)) (hp : p ≤ l.length) : Bk l p q (fldB f) ∧ f.t = t ∧ OwnOk f 0 := by
 simp only [zH, zI, or_false] at htt
 have h : ((gText 4096).bind fun x1 => (gBuf 1048575).bind fun x2 => (gGet 16 12 gAcl).bind fun x3 => (gInt).bind fun x4 => Rg.ret ({ { { { zF t with p := bs x1 } with l := x2 } with L := x3 } with fl := x4 } : OpF)) l p = .inl (f, q) := by
  rcases htt with rfl | rfl | rfl <;> exact h
 obtain ⟨x1, q1, h1, h⟩ := bind_inl h
 have a1 := text_fo h1
 obtain ⟨x2, q2, h2, h⟩ := bind_inl h
 have a2 := gBuf_most h2
 obtain ⟨x3, q3, h3, h⟩ := bind_inl h
 have a3 := acls_fo h3
 obtain ⟨x4, q4, h4, h⟩ := bind_inl h
 have h : (Sum.inl (_, _) : (OpF × Nat) ⊕ (Int × Nat)) = .inl (f, q) := h
 simp only [Sum.inl.injEq, Prod.mk.injEq] at h
 obtain ⟨rfl, rfl⟩ := h
 refine ⟨by rcases htt with rfl | rfl | rfl <;> exact (((a1.1).app (buf_bk' h2)).app a3.1).app (int_bk h4), rfl, ⟨by dsimp only [zF]; rcases htt with rfl | rfl | rfl <;> decide, (by have := a1.2.1; dsimp only; omega), (by dsimp only; omega), a3.2.1, Nat.zero_le _, ?_, ?_, fun _ => Nat.zero_le _, ?_, a1.2.2, by rcases htt with rfl | rfl | rfl <;> rfl, fun _ => rfl⟩⟩
 · intro K hK
   simp only [OpF.lists, zF, zH, zI, or_false, or_self] at hK
   subst hK
   exact Nat.zero_le _
 · intro s hs
   simp [OpF.texts, zF] at hs
 · intro x hx
   simp only [OpF.ids, zF, List.nil_append] at hx
   obtain ⟨y, hy, rfl⟩ := List.mem_map.1 hx
   exact a3.2.2 y hy
theorem forth_g1 {t : Int} (htt : t ∈ ([21] : List Int)) {l : List UInt8} {p q : Nat} {f : OpF} (h : gFld t l p = .inl (f, q)) (hp : p ≤ l.length) : Bk l p q (fldB f) ∧ f.t = t ∧ OwnOk f 0 := by
 simp only [zH, zI, or_false] at htt
 have h : ((gText 4096).bind fun x1 => (gBuf 1048575).bind fun x2 => (gGet 16 12 gAcl).bind fun x3 => (gInt).bind fun x4 => (gLong).bind fun x5 => Rg.ret ({ { { { { zF t with p := bs x1 } with l := x2 } with L := x3 } with fl := x4 } with tl := x5 } : OpF)) l p = .inl (f, q) := by
  rcases htt with rfl <;> exact h
 obtain ⟨x1, q1, h1, h⟩ := bind_inl h
 have a1 := text_fo h1
 obtain ⟨x2, q2, h2, h⟩ := bind_inl h
 have a2 := gBuf_most h2
 obtain ⟨x3, q3, h3, h⟩ := bind_inl h
 have a3 := acls_fo h3
 obtain ⟨x4, q4, h4, h⟩ := bind_inl h
 obtain ⟨x5, q5, h5, h⟩ := bind_inl h
 have h : (Sum.inl (_, _) : (OpF × Nat) ⊕ (Int × Nat)) = .inl (f, q) := h
 simp only [Sum.inl.injEq, Prod.mk.injEq] at h
 obtain ⟨rfl, rfl⟩ := h
 refine ⟨by rcases htt with rfl <;> exact ((((a1.1).app (buf_bk' h2)).app a3.1).app (int_bk h4)).app (long_bk h5), rfl, ⟨by dsimp only [zF]; rcases htt with rfl <;> decide, (by have := a1.2.1; dsimp only; omega), (by dsimp only; omega), a3.2.1, Nat.zero_le _, ?_, ?_, fun _ => Nat.zero_le _, ?_, a1.2.2, by rcases htt with rfl <;> rfl, fun _ => rfl⟩⟩
 · intro K hK
   simp only [OpF.lists, zF, zH, zI, or_false, or_self] at hK
   subst hK
   exact Nat.zero_le _
 · intro s hs
   simp [OpF.texts, zF] at hs
 · intro x hx
   simp only [OpF.ids, zF, List.nil_append] at hx
   obtain ⟨y, hy, rfl⟩ := List.mem_map.1 hx
   exact a3.2.2 y hy
theorem forth_g2 {t : Int} (htt : t ∈ ([2, 13] : List Int)) {l : List UInt8} {p q : Nat} {f : OpF} (h : gFld t l p = .inl (f, q)) (hp : p ≤ l.length) : Bk l p q (fldB f) ∧ f.t = t ∧ OwnOk f 0 := by
 simp only [zH, zI, or_false] at htt
 have h : ((gText 4096).bind fun x1 => (gInt).bind fun x2 => Rg.ret ({ { zF t with p := bs x1 } with ve := x2 } : OpF)) l p = .inl (f, q) := by
  rcases htt with rfl | rfl <;> exact h
 obtain ⟨x1, q1, h1, h⟩ := bind_inl h
 have a1 := text_fo h1
 obtain ⟨x2, q2, h2, h⟩ := bind_inl h
 have h : (Sum.inl (_, _) : (OpF × Nat) ⊕ (Int × Nat)) = .inl (f, q) := h
 simp only [Sum.inl.injEq, Prod.mk.injEq] at h
 obtain ⟨rfl, rfl⟩ := h
 refine ⟨by rcases htt with rfl | rfl <;> exact (a1.1).app (int_bk h2), rfl, ⟨by dsimp only [zF]; rcases htt with rfl | rfl <;> decide, (by have := a1.2.1; dsimp only; omega), Nat.zero_le _, Nat.zero_le _, Nat.zero_le _, ?_, ?_, fun _ => Nat.zero_le _, ?_, a1.2.2, by rcases htt with rfl | rfl <;> rfl, fun _ => rfl⟩⟩
 · intro K hK
   simp only [OpF.lists, zF, zH, zI, or_false, or_self] at hK
   subst hK
   exact Nat.zero_le _
 · intro s hs
   simp [OpF.texts, zF] at hs
 · intro x hx
   simp [OpF.ids, zF] at hx
theorem forth_g3 {t : Int} (htt : t ∈ ([5] : List Int)) {l : List UInt8} {p q : Nat} {f : OpF} (h : gFld t l p = .inl (f, q)) (hp : p ≤ l.length) : Bk l p q (fldB f) ∧ f.t = t ∧ OwnOk f 0 := by
 simp only [zH, zI, or_false] at htt
 have h : ((gText 4096).bind fun x1 => (gBuf 1048575).bind fun x2 => (gInt).bind fun x3 => Rg.ret ({ { { zF t with p := bs x1 } with l := x2 } with ve := x3 } : OpF)) l p = .inl (f, q) := by
  rcases htt with rfl <;> exact h
 obtain ⟨x1, q1, h1, h⟩ := bind_inl h
 have a1 := text_fo h1
 obtain ⟨x2, q2, h2, h⟩ := bind_inl h
 have a2 := gBuf_most h2
 obtain ⟨x3, q3, h3, h⟩ := bind_inl h
 have h : (Sum.inl (_, _) : (OpF × Nat) ⊕ (Int × Nat)) = .inl (f, q) := h
 simp only [Sum.inl.injEq, Prod.mk.injEq] at h
 obtain ⟨rfl, rfl⟩ := h
 refine ⟨by rcases htt with rfl <;> exact ((a1.1).app (buf_bk' h2)).app (int_bk h3), rfl, ⟨by dsimp only [zF]; rcases htt with rfl <;> decide, (by have := a1.2.1; dsimp only; omega), (by dsimp only; omega), Nat.zero_le _, Nat.zero_le _, ?_, ?_, fun _ => Nat.zero_le _, ?_, a1.2.2, by rcases htt with rfl <;> rfl, fun _ => rfl⟩⟩
 · intro K hK
   simp only [OpF.lists, zF, zH, zI, or_false, or_self] at hK
   subst hK
   exact Nat.zero_le _
 · intro s hs
   simp [OpF.texts, zF] at hs
 · intro x hx
   simp [OpF.ids, zF] at hx
theorem forth_g4 {t : Int} (htt : t ∈ ([7] : List Int)) {l : List UInt8} {p q : Nat} {f : OpF} (h : gFld t l p = .inl (f, q)) (hp : p ≤ l.length) : Bk l p q (fldB f) ∧ f.t = t ∧ OwnOk f 0 := by
 simp only [zH, zI, or_false] at htt
 have h : ((gText 4096).bind fun x1 => (gGet 16 12 gAcl).bind fun x2 => (gInt).bind fun x3 => Rg.ret ({ { { zF t with p := bs x1 } with L := x2 } with ve := x3 } : OpF)) l p = .inl (f, q) := by
  rcases htt with rfl <;> exact h
 obtain ⟨x1, q1, h1, h⟩ := bind_inl h
 have a1 := text_fo h1
 obtain ⟨x2, q2, h2, h⟩ := bind_inl h
 have a2 := acls_fo h2
 obtain ⟨x3, q3, h3, h⟩ := bind_inl h
 have h : (Sum.inl (_, _) : (OpF × Nat) ⊕ (Int × Nat)) = .inl (f, q) := h
 simp only [Sum.inl.injEq, Prod.mk.injEq] at h
 obtain ⟨rfl, rfl⟩ := h
 refine ⟨by rcases htt with rfl <;> exact ((a1.1).app a2.1).app (int_bk h3), rfl, ⟨by dsimp only [zF]; rcases htt with rfl <;> decide, (by have := a1.2.1; dsimp only; omega), Nat.zero_le _, a2.2.1, Nat.zero_le _, ?_, ?_, fun _ => Nat.zero_le _, ?_, a1.2.2, by rcases htt with rfl <;> rfl, fun _ => rfl⟩⟩
 · intro K hK
   simp only [OpF.lists, zF, zH, zI, or_false, or_self] at hK
   subst hK
   exact Nat.zero_le _
 · intro s hs
   simp [OpF.texts, zF] at hs
 · intro x hx
   simp only [OpF.ids, zF, List.nil_append] at hx
   obtain ⟨y, hy, rfl⟩ := List.mem_map.1 hx
   exact a2.2.2 y hy
theorem forth_g5 {t : Int} (htt : t ∈ ([120] : List Int)) {l : List UInt8} {p q : Nat} {f : OpF} (h : gFld t l p = .inl (f, q)) (hp : p ≤ l.length) : Bk l p q (fldB f) ∧ f.t = t ∧ OwnOk f 0 := by
 simp only [zH, zI, or_false] at htt
 have h : ((gText 4096).bind fun x1 => (gLong).bind fun x2 => (gLong).bind fun x3 => Rg.ret ({ { { zF t with p := bs x1 } with ct := x2 } with by_ := x3 } : OpF)) l p = .inl (f, q) := by
  rcases htt with rfl <;> exact h
 obtain ⟨x1, q1, h1, h⟩ := bind_inl h
 have a1 := text_fo h1
 obtain ⟨x2, q2, h2, h⟩ := bind_inl h
 obtain ⟨x3, q3, h3, h⟩ := bind_inl h
 have h : (Sum.inl (_, _) : (OpF × Nat) ⊕ (Int × Nat)) = .inl (f, q) := h
 simp only [Sum.inl.injEq, Prod.mk.injEq] at h
 obtain ⟨rfl, rfl⟩ := h
 refine ⟨by rcases htt with rfl <;> exact ((a1.1).app (long_bk h2)).app (long_bk h3), rfl, ⟨by dsimp only [zF]; rcases htt with rfl <;> decide, (by have := a1.2.1; dsimp only; omega), Nat.zero_le _, Nat.zero_le _, Nat.zero_le _, ?_, ?_, fun _ => Nat.zero_le _, ?_, a1.2.2, by rcases htt with rfl <;> rfl, fun _ => rfl⟩⟩
 · intro K hK
   simp only [OpF.lists, zF, zH, zI, or_false, or_self] at hK
   subst hK
   exact Nat.zero_le _
 · intro s hs
   simp [OpF.texts, zF] at hs
 · intro x hx
   simp [OpF.ids, zF] at hx
theorem forth_g6 {t : Int} (htt : t ∈ ([121, 6, 9, 103, 104] : List Int)) {l : List UInt8} {p q : Nat} {f : OpF} (h : gFld t l p = .inl (f, q)) (hp : p ≤ l.length) : Bk l p q (fldB f) ∧ f.t = t ∧ OwnOk f 0 := by
 simp only [zH, zI, or_false] at htt
 have h : ((gText 4096).bind fun x1 => Rg.ret ({ zF t with p := bs x1 } : OpF)) l p = .inl (f, q) := by
  rcases htt with rfl | rfl | rfl | rfl | rfl <;> exact h
 obtain ⟨x1, q1, h1, h⟩ := bind_inl h
 have a1 := text_fo h1
 have h : (Sum.inl (_, _) : (OpF × Nat) ⊕ (Int × Nat)) = .inl (f, q) := h
 simp only [Sum.inl.injEq, Prod.mk.injEq] at h
 obtain ⟨rfl, rfl⟩ := h
 refine ⟨by rcases htt with rfl | rfl | rfl | rfl | rfl <;> exact a1.1, rfl, ⟨by dsimp only [zF]; rcases htt with rfl | rfl | rfl | rfl | rfl <;> decide, (by have := a1.2.1; dsimp only; omega), Nat.zero_le _, Nat.zero_le _, Nat.zero_le _, ?_, ?_, fun _ => Nat.zero_le _, ?_, a1.2.2, by rcases htt with rfl | rfl | rfl | rfl | rfl <;> rfl, fun _ => rfl⟩⟩
 · intro K hK
   simp only [OpF.lists, zF, zH, zI, or_false, or_self] at hK
   subst hK
   exact Nat.zero_le _
 · intro s hs
   simp [OpF.texts, zF] at hs
 · intro x hx
   simp [OpF.ids, zF] at hx
theorem forth_g7 {t : Int} (htt : t ∈ ([3, 4, 8, 12] : List Int)) {l : List UInt8} {p q : Nat} {f : OpF} (h : gFld t l p = .inl (f, q)) (hp : p ≤ l.length) : Bk l p q (fldB f) ∧ f.t = t ∧ OwnOk f 0 := by
 simp only [zH, zI, or_false] at htt
 have h : ((gText 4096).bind fun x1 => (gBool).bind fun x2 => Rg.ret ({ { zF t with p := bs x1 } with wa := x2 } : OpF)) l p = .inl (f, q) := by
  rcases htt with rfl | rfl | rfl | rfl <;> exact h
 obtain ⟨x1, q1, h1, h⟩ := bind_inl h
 have a1 := text_fo h1
 obtain ⟨x2, q2, h2, h⟩ := bind_inl h
 have h : (Sum.inl (_, _) : (OpF × Nat) ⊕ (Int × Nat)) = .inl (f, q) := h
 simp only [Sum.inl.injEq, Prod.mk.injEq] at h
 obtain ⟨rfl, rfl⟩ := h
 refine ⟨by rcases htt with rfl | rfl | rfl | rfl <;> exact (a1.1).app (bool_bk' h2), rfl, ⟨by dsimp only [zF]; rcases htt with rfl | rfl | rfl | rfl <;> decide, (by have := a1.2.1; dsimp only; omega), Nat.zero_le _, Nat.zero_le _, Nat.zero_le _, ?_, ?_, fun _ => Nat.zero_le _, ?_, a1.2.2, by rcases htt with rfl | rfl | rfl | rfl <;> rfl, fun _ => rfl⟩⟩
 · intro K hK
   simp only [OpF.lists, zF, zH, zI, or_false, or_self] at hK
   subst hK
   exact Nat.zero_le _
 · intro s hs
   simp [OpF.texts, zF] at hs
 · intro x hx
   simp [OpF.ids, zF] at hx
theorem forth_g8 {t : Int} (htt : t ∈ ([106, 18] : List Int)) {l : List UInt8} {p q : Nat} {f : OpF} (h : gFld t l p = .inl (f, q)) (hp : p ≤ l.length) : Bk l p q (fldB f) ∧ f.t = t ∧ OwnOk f 0 := by
 simp only [zH, zI, or_false] at htt
 have h : ((gText 4096).bind fun x1 => (gInt).bind fun x2 => Rg.ret ({ { zF t with p := bs x1 } with fl := x2 } : OpF)) l p = .inl (f, q) := by
  rcases htt with rfl | rfl <;> exact h
 obtain ⟨x1, q1, h1, h⟩ := bind_inl h
 have a1 := text_fo h1
 obtain ⟨x2, q2, h2, h⟩ := bind_inl h
 have h : (Sum.inl (_, _) : (OpF × Nat) ⊕ (Int × Nat)) = .inl (f, q) := h
 simp only [Sum.inl.injEq, Prod.mk.injEq] at h
 obtain ⟨rfl, rfl⟩ := h
 refine ⟨by rcases htt with rfl | rfl <;> exact (a1.1).app (int_bk h2), rfl, ⟨by dsimp only [zF]; rcases htt with rfl | rfl <;> decide, (by have := a1.2.1; dsimp only; omega), Nat.zero_le _, Nat.zero_le _, Nat.zero_le _, ?_, ?_, fun _ => Nat.zero_le _, ?_, a1.2.2, by rcases htt with rfl | rfl <;> rfl, fun _ => rfl⟩⟩
 · intro K hK
   simp only [OpF.lists, zF, zH, zI, or_false, or_self] at hK
   subst hK
   exact Nat.zero_le _
 · intro s hs
   simp [OpF.texts, zF] at hs
 · intro x hx
   simp [OpF.ids, zF] at hx
theorem forth_g9 {t : Int} (htt : t ∈ ([(-10)] : List Int)) {l : List UInt8} {p q : Nat} {f : OpF} (h : gFld t l p = .inl (f, q)) (hp : p ≤ l.length) : Bk l p q (fldB f) ∧ f.t = t ∧ OwnOk f 0 := by
 simp only [zH, zI, or_false] at htt
 have h : ((gInt).bind fun x1 => (gGet 16 8 gIdO).bind fun x2 => Rg.ret ({ (⟨(zF t).t, (zF t).p, (zF t).l, (zF t).L, (zF t).fl, (zF t).ve, (zF t).wa, (zF t).ct, (zF t).by_, (zF t).tl, (zF t).zx, (zF t).K0, (zF t).K1, (zF t).K2, (zF t).K3, (zF t).K4, x1, (zF t).I⟩ : OpF) with I := x2 } : OpF)) l p = .inl (f, q) := by
  rcases htt with rfl <;> exact h
 obtain ⟨x1, q1, h1, h⟩ := bind_inl h
 obtain ⟨x2, q2, h2, h⟩ := bind_inl h
 have a2 := ids_fo h2
 have h : (Sum.inl (_, _) : (OpF × Nat) ⊕ (Int × Nat)) = .inl (f, q) := h
 simp only [Sum.inl.injEq, Prod.mk.injEq] at h
 obtain ⟨rfl, rfl⟩ := h
 refine ⟨by rcases htt with rfl <;> exact ((int_bk h1)).app a2.1, rfl, ⟨by dsimp only [zF]; rcases htt with rfl <;> decide, Nat.zero_le _, Nat.zero_le _, Nat.zero_le _, a2.2.1, ?_, ?_, fun _ => Nat.zero_le _, ?_, empty_valid, by rcases htt with rfl <;> rfl, fun _ => rfl⟩⟩
 · intro K hK
   simp only [OpF.lists, zF, zH, zI, or_false, or_self] at hK
   subst hK
   exact Nat.zero_le _
 · intro s hs
   simp [OpF.texts, zF] at hs
 · intro x hx
   simp only [OpF.ids, zF, List.map_nil, List.append_nil] at hx
   exact a2.2.2 x hx
theorem forth_g10 {t : Int} (htt : t ∈ ([(-11), 11, 107] : List Int)) {l : List UInt8} {p q : Nat} {f : OpF} (h : gFld t l p = .inl (f, q)) (hp : p ≤ l.length) : Bk l p q (fldB f) ∧ f.t = t ∧ OwnOk f 0 := by
 simp only [zH, zI, or_false] at htt
 have h : (Rg.ret (zF t : OpF)) l p = .inl (f, q) := by
  rcases htt with rfl | rfl | rfl <;> exact h
 have h : (Sum.inl (_, _) : (OpF × Nat) ⊕ (Int × Nat)) = .inl (f, q) := h
 simp only [Sum.inl.injEq, Prod.mk.injEq] at h
 obtain ⟨rfl, rfl⟩ := h
 refine ⟨by rcases htt with rfl | rfl | rfl <;> exact Bk.nil l p hp, rfl, ⟨by dsimp only [zF]; rcases htt with rfl | rfl | rfl <;> decide, Nat.zero_le _, Nat.zero_le _, Nat.zero_le _, Nat.zero_le _, ?_, ?_, fun _ => Nat.zero_le _, ?_, empty_valid, by rcases htt with rfl | rfl | rfl <;> rfl, fun _ => rfl⟩⟩
 · intro K hK
   simp only [OpF.lists, zF, zH, zI, or_false, or_self] at hK
   subst hK
   exact Nat.zero_le _
 · intro s hs
   simp [OpF.texts, zF] at hs
 · intro x hx
   simp [OpF.ids, zF] at hx
theorem wat_forth {l : List UInt8} {p q : Nat} {f : OpF} (h : gWat l p = .inl (f, q)) : Bk l p q (fldB f) ∧ f.t = 101 ∧ OwnOk f 0 := by
 obtain ⟨z, q0, h0, h⟩ := bind_inl h
 obtain ⟨x0, q1, h1, h⟩ := bind_inl h
 obtain ⟨x1, q2, h2, h⟩ := bind_inl h
 obtain ⟨x2, q3, h3, h⟩ := bind_inl h
 obtain ⟨x3, q4, h4, h⟩ := bind_inl h
 obtain ⟨x4, q5, h5, h⟩ := bind_inl h
 have h : (Sum.inl (_, _) : (OpF × Nat) ⊕ (Int × Nat)) = .inl (f, q) := h
 simp only [Sum.inl.injEq, Prod.mk.injEq] at h
 obtain ⟨rfl, rfl⟩ := h
 obtain ⟨a1, b1, c1⟩ := texts_fo h1
 obtain ⟨a2, b2, c2⟩ := texts_fo h2
 obtain ⟨a3, b3, c3⟩ := texts_fo h3
 obtain ⟨a4, b4, c4⟩ := texts_fo h4
 obtain ⟨a5, b5, c5⟩ := texts_fo h5
 refine ⟨?_, rfl, ⟨by dsimp only [zF]; decide, Nat.zero_le _, Nat.zero_le _, Nat.zero_le _, Nat.zero_le _, ?_, ?_, fun _ => Nat.zero_le _, ?_, empty_valid, rfl, fun _ => rfl⟩⟩
 · have hb := (long_bk h0).app (a1.app (a2.app (a3.app (a4.app a5))))
   refine cast (congrArg (Bk l p q5) ?_) hb
   show _ = bLong z ++ pListsB _
   unfold pListsB OpF.lists
   simp only [List.flatMap_cons, List.flatMap_nil, List.append_nil]
 · intro K hK
   simp only [OpF.lists, zH, zI, or_false] at hK
   rcases hK with rfl | rfl | rfl | rfl | rfl
   · exact b1
   · exact b2
   · exact b3
   · exact b4
   · exact b5
 · intro s hs
   simp only [OpF.texts, List.mem_append] at hs
   rcases hs with hs | hs | hs | hs | hs
   · exact c1 s hs
   · exact c2 s hs
   · exact c3 s hs
   · exact c4 s hs
   · exact c5 s hs
 · intro x hx
   simp [OpF.ids, zF] at hx
theorem fld_forth {t : Int} {l : List UInt8} {p q : Nat} {f : OpF} (h : gFld t l p = .inl (f, q)) (hp : p ≤ l.length) (h0 : kindN t ≠ 0) (h5 : kindN t ≠ 5) (h14 : t ≠ 14) (h22 : t ≠ 22) (h101 : t ≠ 101) : Bk l p q (fldB f) ∧ f.t = t ∧ OwnOk f 0 := by
 have htt := kind_types h0
 simp only [ownTypes, zH, zI, or_false] at htt
 rcases htt with rfl | rfl | rfl | rfl | rfl | rfl | rfl | rfl | rfl | rfl | rfl | rfl | rfl | rfl | rfl | rfl | rfl | rfl | rfl | rfl | rfl | rfl | rfl | rfl | rfl | rfl | rfl | rfl
 · exact forth_g0 (by decide) h hp
 · exact forth_g0 (by decide) h hp
 · exact forth_g0 (by decide) h hp
 · exact forth_g1 (by decide) h hp
 · exact forth_g2 (by decide) h hp
 · exact forth_g2 (by decide) h hp
 · exact forth_g3 (by decide) h hp
 · exact forth_g4 (by decide) h hp
 · exact forth_g5 (by decide) h hp
 · exact forth_g6 (by decide) h hp
 · exact absurd rfl h14
 · exact forth_g9 (by decide) h hp
 · exact forth_g10 (by decide) h hp
 · exact absurd (by decide) h5
 · exact forth_g7 (by decide) h hp
 · exact forth_g7 (by decide) h hp
 · exact forth_g7 (by decide) h hp
 · exact forth_g7 (by decide) h hp
 · exact forth_g6 (by decide) h hp
 · exact forth_g6 (by decide) h hp
 · exact forth_g6 (by decide) h hp
 · exact forth_g6 (by decide) h hp
 · exact forth_g8 (by decide) h hp
 · exact forth_g10 (by decide) h hp
 · exact forth_g8 (by decide) h hp
 · exact absurd rfl h22
 · exact absurd rfl h101
 · exact forth_g10 (by decide) h hp
end Go.Proofs.YtpjjnmdfgcfnmaaGreatDoor
