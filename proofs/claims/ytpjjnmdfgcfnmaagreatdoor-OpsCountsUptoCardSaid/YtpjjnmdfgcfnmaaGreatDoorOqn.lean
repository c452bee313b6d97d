/- ops.Put: the fields of any operation, with all that stands in it. (printed by gen_p20.py) -/
import Derived.Test.YtpjjnmdfgcfnmaaGreatDoorOq19
import Derived.Test.YtpjjnmdfgcfnmaaGreatDoorOqi
set_option linter.unusedVariables false
set_option linter.unusedSimpArgs false
namespace Go.Proofs.YtpjjnmdfgcfnmaaGreatDoor
open Go.RowKit

theorem isz_five : (Tryz.prog.info? 25).map (·.size) = some 5 := by kernel_rfl
set_option maxRecDepth 100000 in
set_option maxHeartbeats 4000000 in
theorem put_none {w0 w : World} {lo : Option Nat} (f : OpF) (d a k0 k1 k2 k3 k4 i s : Sl) (base g : Nat) (v : Value) (l : List UInt8) (ht : f.t ∉ ([1, 15, 19, 21, 2, 13, 5, 7, 120, 121, 6, 9, 103, 104, 3, 4, 8, 12, 101, 106, 18, -10, 14, 22] : List Int)) (h : FAt w0 lo f d a k0 k1 k2 k3 k4 i) (hw : w0.heap.size ≤ base) (hg : base ≤ g) (hb0 : Below w0.heap.size w0 w) (hv : Wr w base g v l) (hbase : base ≤ w.heap.size) (hsz : l.length + (fldB f).length + 64 ≤ 140737488355328) :
    Calls Tryz.prog 23 #[.pointer (some ⟨g, 0, none⟩), .agg (f.row d a k0 k1 k2 k3 k4 i s).toArray] w fun e w' => e = .returned (.tuple #[]) ∧ ∃ v', Wrote base g v v' l (fldB f) w w' := by
  simp only [List.mem_cons, List.not_mem_nil, or_false, not_or] at ht
  have hfb : fldB f = [] := by unfold fldB; simp [ht]
  rw [hfb]
  clear hfb hsz
  obtain ⟨n0, n1, n2, n3, n4, n5, n6, n7, n8, n9, n10, n11, n12, n13, n14, n15, n16, n17, n18, n19, n20, n21, n22, n23⟩ := ht
  have e0 : (f.t == 1) = false := by simpa using n0
  have e1 : (f.t == 15) = false := by simpa using n1
  have e2 : (f.t == 19) = false := by simpa using n2
  have e3 : (f.t == 21) = false := by simpa using n3
  have e4 : (f.t == 2) = false := by simpa using n4
  have e5 : (f.t == 13) = false := by simpa using n5
  have e6 : (f.t == 5) = false := by simpa using n6
  have e7 : (f.t == 7) = false := by simpa using n7
  have e8 : (f.t == 120) = false := by simpa using n8
  have e9 : (f.t == 121) = false := by simpa using n9
  have e10 : (f.t == 6) = false := by simpa using n10
  have e11 : (f.t == 9) = false := by simpa using n11
  have e12 : (f.t == 103) = false := by simpa using n12
  have e13 : (f.t == 104) = false := by simpa using n13
  have e14 : (f.t == 3) = false := by simpa using n14
  have e15 : (f.t == 4) = false := by simpa using n15
  have e16 : (f.t == 8) = false := by simpa using n16
  have e17 : (f.t == 12) = false := by simpa using n17
  have e18 : (f.t == 101) = false := by simpa using n18
  have e19 : (f.t == 106) = false := by simpa using n19
  have e20 : (f.t == 18) = false := by simpa using n20
  have e21 : (f.t == -10) = false := by simpa using n21
  have e22 : (f.t == 14) = false := by simpa using n22
  have e23 : (f.t == 22) = false := by simpa using n23
  clear n0 n1 n2 n3 n4 n5 n6 n7 n8 n9 n10 n11 n12 n13 n14 n15 n16 n17 n18 n19 n20 n21 n22 n23
  have HS0 := PutSt.mk' (f.row d a k0 k1 k2 k3 k4 i s).toArray hw hg hb0 hv hbase
  obtain ⟨cs, hcs⟩ : ∃ cs : Array Value, cs = (f.row d a k0 k1 k2 k3 k4 i s).toArray := ⟨_, rfl⟩
  obtain ⟨w1, hw1⟩ : ∃ w1, w.alloc (.cells (f.row d a k0 k1 k2 k3 k4 i s).toArray 29) = w1 := ⟨_, rfl⟩
  rw [hw1] at HS0
  have HS := Lib.hid HS0
  have HP0 : Hid (Wrote base g v v l [] w1 w1) := Wrote.start HS0.wr
  have d0 := HS0.cell HP0.out 0 (u := .int .i32 f.t) rfl
  rw [← hcs] at hw1 ⊢
  clear HS0 h hw hg hb0 hv hbase hcs
  go_enter Tryz.func23, Tryz.ntmps23
  go_wp2
  go_end0
  exact ⟨rfl, v, HP0.out.from HS.out.b1⟩
set_option maxRecDepth 100000 in
set_option maxHeartbeats 4000000 in
theorem put_101 {w0 w : World} {lo : Option Nat} (f : OpF) (d a k0 k1 k2 k3 k4 i s : Sl) (base g : Nat) (v : Value) (l : List UInt8) (ht : f.t = 101) (h : FAt w0 lo f d a k0 k1 k2 k3 k4 i) (hw : w0.heap.size ≤ base) (hg : base ≤ g) (hb0 : Below w0.heap.size w0 w) (hv : Wr w base g v l) (hbase : base ≤ w.heap.size) (hsz : l.length + (fldB f).length + 64 ≤ 140737488355328) :
    Calls Tryz.prog 23 #[.pointer (some ⟨g, 0, none⟩), .agg (f.row d a k0 k1 k2 k3 k4 i s).toArray] w fun e w' => e = .returned (.tuple #[]) ∧ ∃ v', Wrote base g v v' l (fldB f) w w' := by
  have hfb : fldB f = bLong f.zx ++ pListsB f := by unfold fldB; rw [ht]; rfl
  rw [hfb] at hsz ⊢
  clear hfb
  have HS0 := PutSt.mk' (f.row d a k0 k1 k2 k3 k4 i s).toArray hw hg hb0 hv hbase
  obtain ⟨cs, hcs⟩ : ∃ cs : Array Value, cs = (f.row d a k0 k1 k2 k3 k4 i s).toArray := ⟨_, rfl⟩
  obtain ⟨w1, hw1⟩ : ∃ w1, w.alloc (.cells (f.row d a k0 k1 k2 k3 k4 i s).toArray 29) = w1 := ⟨_, rfl⟩
  rw [hw1] at HS0
  have HS := Lib.hid HS0
  have HF := Lib.hid h
  have HP0 : Hid (Wrote base g v v l [] w1 w1) := Wrote.start HS0.wr
  have d0 := HS0.cell HP0.out 0 (u := .int .i32 101) (by rw [← ht]; rfl)
  have d10 := HS0.cell HP0.out 10 (u := .int .i64 f.zx) rfl
  have e0 := h.k0.len
  have e1 := h.k1.len
  have e2 := h.k2.len
  have e3 := h.k3.len
  have e4 := h.k4.len
  have HPL : Hid (pListsB f = (bInt f.K0.length ++ bTexts f.K0) ++ ((bInt f.K1.length ++ bTexts f.K1) ++ ((bInt f.K2.length ++ bTexts f.K2) ++ ((bInt f.K3.length ++ bTexts f.K3) ++ ((bInt f.K4.length ++ bTexts f.K4) ++ []))))) := by
    unfold Hid pListsB OpF.lists
    simp only [List.flatMap_cons, List.flatMap_nil]
  obtain ⟨pl, hpl⟩ : ∃ x, x = pListsB f := ⟨_, rfl⟩
  rw [← hpl] at hsz HPL ⊢
  have hpn : pl.length = 20 + (bTexts f.K0).length + (bTexts f.K1).length + (bTexts f.K2).length + (bTexts f.K3).length + (bTexts f.K4).length := by
    rw [HPL.out]
    simp only [List.length_append, bInt_len, List.length_nil]
    omega
  simp only [List.length_append, bLong_len] at hsz
  rw [← hcs] at hw1 ⊢
  clear HS0 h hw hg hb0 hv hbase ht hcs hpl
  go_enter Tryz.func23, Tryz.ntmps23
  go_wp2_with (first
    | (go_at_call 45
       refine (wLong_any base g v _ _ _ HP0.out.1 (HS.out.le HP0.out) (by simp only [List.length_append, List.length_nil]; omega)).mono ?_
       rintro e w2 ⟨rfl, v1, hp⟩
       have HP1 : Hid (Wrote base g v v1 l (bLong f.zx) w1 w2) := (by unfold Hid; have := HP0.out.cat (Below.refl _ _) hp; simpa using this)
       have HRL : Hid (∀ j u, ([k0.v, k1.v, k2.v, k3.v, k4.v] : List Value)[j]? = some u → w2.cell? ((⟨w.heap.size, 11, none⟩ : Addr).add j) = some u) := (fun j u hu => by
         rw [Go.WideShapes.add_plain]
         have hj : j < 5 := by
           rcases Nat.lt_or_ge j 5 with h | h
           · exact h
           · rw [List.getElem?_eq_none (by simpa using h)] at hu; cases hu
         refine HS.out.cell HP1.out (11 + j) ?_
         rcases (by omega : j = 0 ∨ j = 1 ∨ j = 2 ∨ j = 3 ∨ j = 4) with rfl | rfl | rfl | rfl | rfl <;> exact hu)
       clear hp HP0 d0 d10)
    | (refine wpList_load_at (by rfl) 25 (.tmp 134) rfl ⟨w.heap.size, 11, none⟩ rfl [k0.v, k1.v, k2.v, k3.v, k4.v] _ HRL.out Tryz.underlying25 rfl isz_five ?_))
  go_loopw [136] (fun vi wr => ∃ (k : Nat) (v2 : Value) (pre post : List UInt8), k ≤ 5 ∧ vi = .int .i64 (k : Int) ∧ Hid (pl = pre ++ post) ∧ Hid (Wrote base g v v2 l (bLong f.zx ++ pre) w1 wr) ∧ Hid (post = ((f.lists.drop k).flatMap fun L => bInt L.length ++ bTexts L))) (fun vi _ => 5 - (intOf vi).toNat)
  case atStart => exact ⟨0, v1, [], pl, by omega, by go_num, rfl, (by unfold Hid; simpa using HP1.out), (by unfold Hid; rw [HPL.out]; unfold OpF.lists; simp only [List.drop_zero, List.flatMap_cons, List.flatMap_nil])⟩
  case round =>
    clear HP1 HRL
    obtain ⟨k, v2, pre, post, hk, rfl, HPR, HW, HPO⟩ := hrel
    by_cases hk5 : k < 5
    · rcases (by omega : k = 0 ∨ k = 1 ∨ k = 2 ∨ k = 3 ∨ k = 4) with rfl | rfl | rfl | rfl | rfl

      · have hpo : post = (bInt f.K0.length ++ bTexts f.K0) ++ ((f.lists.drop (0 + 1)).flatMap fun L => bInt L.length ++ bTexts L) := by rw [HPO.out]; rfl
        have hlen : pl.length = pre.length + (4 + (bTexts f.K0).length + ((f.lists.drop (0 + 1)).flatMap fun L => bInt L.length ++ bTexts L).length) := by rw [HPR.out, hpo]; simp only [List.length_append, bInt_len]
        obtain ⟨rest, hrest⟩ : ∃ x, x = ((f.lists.drop (0 + 1)).flatMap fun L => bInt L.length ++ bTexts L) := ⟨_, rfl⟩
        rw [← hrest] at hpo hlen
        have HRE := Lib.hid hrest
        have HPO2 := Lib.hid hpo
        clear hpo hrest HPO hk hk5
        have hix : ∀ W, (Instr.index 25 (.agg #[k0.v, k1.v, k2.v, k3.v, k4.v]) (.int .i64 0)).run Tryz.prog W = .ok (.slice k0.A k0.n k0.c) W := fun W => by kernel_rfl
        go_wp2_with (first
          | (go_at_call 47
             refine (pTexts_any base g v2 _ k0.A k0.n k0.c w0.heap.size f.K0 _ HW.out.1 (by rw [← strCells_eq]; exact HF.out.k0.reads.below (HS.out.below HW.out)) HS.out.base0 HS.out.bg (HS.out.le HW.out) (Nat.le_trans (HF.out.k0.bd (by decide)) (by decide)) (by simp only [List.length_append, bLong_len]; omega)).mono ?_
             rintro e w3 ⟨rfl, v3, hp⟩
             have HP := Lib.hid (HW.out.cat (Below.refl _ _) hp)
             clear hp))
        go_roundw
        case rel => exact ⟨0 + 1, v3, pre ++ (bInt f.K0.length ++ bTexts f.K0), rest, by omega, by go_num, (by unfold Hid; rw [HPR.out, HPO2.out]; simp only [List.append_assoc]), (by unfold Hid; have := HP.out; rw [← e0] at this; rwa [List.append_assoc] at this), HRE.out⟩
        case measure => simp [intOf]
      · have hpo : post = (bInt f.K1.length ++ bTexts f.K1) ++ ((f.lists.drop (1 + 1)).flatMap fun L => bInt L.length ++ bTexts L) := by rw [HPO.out]; rfl
        have hlen : pl.length = pre.length + (4 + (bTexts f.K1).length + ((f.lists.drop (1 + 1)).flatMap fun L => bInt L.length ++ bTexts L).length) := by rw [HPR.out, hpo]; simp only [List.length_append, bInt_len]
        obtain ⟨rest, hrest⟩ : ∃ x, x = ((f.lists.drop (1 + 1)).flatMap fun L => bInt L.length ++ bTexts L) := ⟨_, rfl⟩
        rw [← hrest] at hpo hlen
        have HRE := Lib.hid hrest
        have HPO2 := Lib.hid hpo
        clear hpo hrest HPO hk hk5
        have hix : ∀ W, (Instr.index 25 (.agg #[k0.v, k1.v, k2.v, k3.v, k4.v]) (.int .i64 1)).run Tryz.prog W = .ok (.slice k1.A k1.n k1.c) W := fun W => by kernel_rfl
        go_wp2_with (first
          | (go_at_call 47
             refine (pTexts_any base g v2 _ k1.A k1.n k1.c w0.heap.size f.K1 _ HW.out.1 (by rw [← strCells_eq]; exact HF.out.k1.reads.below (HS.out.below HW.out)) HS.out.base0 HS.out.bg (HS.out.le HW.out) (Nat.le_trans (HF.out.k1.bd (by decide)) (by decide)) (by simp only [List.length_append, bLong_len]; omega)).mono ?_
             rintro e w3 ⟨rfl, v3, hp⟩
             have HP := Lib.hid (HW.out.cat (Below.refl _ _) hp)
             clear hp))
        go_roundw
        case rel => exact ⟨1 + 1, v3, pre ++ (bInt f.K1.length ++ bTexts f.K1), rest, by omega, by go_num, (by unfold Hid; rw [HPR.out, HPO2.out]; simp only [List.append_assoc]), (by unfold Hid; have := HP.out; rw [← e1] at this; rwa [List.append_assoc] at this), HRE.out⟩
        case measure => simp [intOf]
      · have hpo : post = (bInt f.K2.length ++ bTexts f.K2) ++ ((f.lists.drop (2 + 1)).flatMap fun L => bInt L.length ++ bTexts L) := by rw [HPO.out]; rfl
        have hlen : pl.length = pre.length + (4 + (bTexts f.K2).length + ((f.lists.drop (2 + 1)).flatMap fun L => bInt L.length ++ bTexts L).length) := by rw [HPR.out, hpo]; simp only [List.length_append, bInt_len]
        obtain ⟨rest, hrest⟩ : ∃ x, x = ((f.lists.drop (2 + 1)).flatMap fun L => bInt L.length ++ bTexts L) := ⟨_, rfl⟩
        rw [← hrest] at hpo hlen
        have HRE := Lib.hid hrest
        have HPO2 := Lib.hid hpo
        clear hpo hrest HPO hk hk5
        have hix : ∀ W, (Instr.index 25 (.agg #[k0.v, k1.v, k2.v, k3.v, k4.v]) (.int .i64 2)).run Tryz.prog W = .ok (.slice k2.A k2.n k2.c) W := fun W => by kernel_rfl
        go_wp2_with (first
          | (go_at_call 47
             refine (pTexts_any base g v2 _ k2.A k2.n k2.c w0.heap.size f.K2 _ HW.out.1 (by rw [← strCells_eq]; exact HF.out.k2.reads.below (HS.out.below HW.out)) HS.out.base0 HS.out.bg (HS.out.le HW.out) (Nat.le_trans (HF.out.k2.bd (by decide)) (by decide)) (by simp only [List.length_append, bLong_len]; omega)).mono ?_
             rintro e w3 ⟨rfl, v3, hp⟩
             have HP := Lib.hid (HW.out.cat (Below.refl _ _) hp)
             clear hp))
        go_roundw
        case rel => exact ⟨2 + 1, v3, pre ++ (bInt f.K2.length ++ bTexts f.K2), rest, by omega, by go_num, (by unfold Hid; rw [HPR.out, HPO2.out]; simp only [List.append_assoc]), (by unfold Hid; have := HP.out; rw [← e2] at this; rwa [List.append_assoc] at this), HRE.out⟩
        case measure => simp [intOf]
      · have hpo : post = (bInt f.K3.length ++ bTexts f.K3) ++ ((f.lists.drop (3 + 1)).flatMap fun L => bInt L.length ++ bTexts L) := by rw [HPO.out]; rfl
        have hlen : pl.length = pre.length + (4 + (bTexts f.K3).length + ((f.lists.drop (3 + 1)).flatMap fun L => bInt L.length ++ bTexts L).length) := by rw [HPR.out, hpo]; simp only [List.length_append, bInt_len]
        obtain ⟨rest, hrest⟩ : ∃ x, x = ((f.lists.drop (3 + 1)).flatMap fun L => bInt L.length ++ bTexts L) := ⟨_, rfl⟩
        rw [← hrest] at hpo hlen
        have HRE := Lib.hid hrest
        have HPO2 := Lib.hid hpo
        clear hpo hrest HPO hk hk5
        have hix : ∀ W, (Instr.index 25 (.agg #[k0.v, k1.v, k2.v, k3.v, k4.v]) (.int .i64 3)).run Tryz.prog W = .ok (.slice k3.A k3.n k3.c) W := fun W => by kernel_rfl
        go_wp2_with (first
          | (go_at_call 47
             refine (pTexts_any base g v2 _ k3.A k3.n k3.c w0.heap.size f.K3 _ HW.out.1 (by rw [← strCells_eq]; exact HF.out.k3.reads.below (HS.out.below HW.out)) HS.out.base0 HS.out.bg (HS.out.le HW.out) (Nat.le_trans (HF.out.k3.bd (by decide)) (by decide)) (by simp only [List.length_append, bLong_len]; omega)).mono ?_
             rintro e w3 ⟨rfl, v3, hp⟩
             have HP := Lib.hid (HW.out.cat (Below.refl _ _) hp)
             clear hp))
        go_roundw
        case rel => exact ⟨3 + 1, v3, pre ++ (bInt f.K3.length ++ bTexts f.K3), rest, by omega, by go_num, (by unfold Hid; rw [HPR.out, HPO2.out]; simp only [List.append_assoc]), (by unfold Hid; have := HP.out; rw [← e3] at this; rwa [List.append_assoc] at this), HRE.out⟩
        case measure => simp [intOf]
      · have hpo : post = (bInt f.K4.length ++ bTexts f.K4) ++ ((f.lists.drop (4 + 1)).flatMap fun L => bInt L.length ++ bTexts L) := by rw [HPO.out]; rfl
        have hlen : pl.length = pre.length + (4 + (bTexts f.K4).length + ((f.lists.drop (4 + 1)).flatMap fun L => bInt L.length ++ bTexts L).length) := by rw [HPR.out, hpo]; simp only [List.length_append, bInt_len]
        obtain ⟨rest, hrest⟩ : ∃ x, x = ((f.lists.drop (4 + 1)).flatMap fun L => bInt L.length ++ bTexts L) := ⟨_, rfl⟩
        rw [← hrest] at hpo hlen
        have HRE := Lib.hid hrest
        have HPO2 := Lib.hid hpo
        clear hpo hrest HPO hk hk5
        have hix : ∀ W, (Instr.index 25 (.agg #[k0.v, k1.v, k2.v, k3.v, k4.v]) (.int .i64 4)).run Tryz.prog W = .ok (.slice k4.A k4.n k4.c) W := fun W => by kernel_rfl
        go_wp2_with (first
          | (go_at_call 47
             refine (pTexts_any base g v2 _ k4.A k4.n k4.c w0.heap.size f.K4 _ HW.out.1 (by rw [← strCells_eq]; exact HF.out.k4.reads.below (HS.out.below HW.out)) HS.out.base0 HS.out.bg (HS.out.le HW.out) (Nat.le_trans (HF.out.k4.bd (by decide)) (by decide)) (by simp only [List.length_append, bLong_len]; omega)).mono ?_
             rintro e w3 ⟨rfl, v3, hp⟩
             have HP := Lib.hid (HW.out.cat (Below.refl _ _) hp)
             clear hp))
        go_roundw
        case rel => exact ⟨4 + 1, v3, pre ++ (bInt f.K4.length ++ bTexts f.K4), rest, by omega, by go_num, (by unfold Hid; rw [HPR.out, HPO2.out]; simp only [List.append_assoc]), (by unfold Hid; have := HP.out; rw [← e4] at this; rwa [List.append_assoc] at this), HRE.out⟩
        case measure => simp [intOf]
    · have hk2 : k = 5 := by omega
      subst hk2
      have hpe : pl = pre := by rw [HPR.out, HPO.out]; simp [OpF.lists]
      have HE := Lib.hid hpe
      clear hpe HPO
      go_wp2
      go_end0
      exact ⟨rfl, v2, by rw [HE.out]; exact HW.out.from HS.out.b1⟩
def hdrB (t : Int) (b : Bool) : List UInt8 := bInt t ++ bBool b ++ bInt (-1)
theorem hdrB_len (t : Int) (b : Bool) : (hdrB t b).length = 9 := by
  unfold hdrB
  simp [bInt_len, bBool]
mutual
/-- the bytes of an operation's fields -/
def OpC.putB : OpC → List UInt8
  | .mk f S => if f.t = 14 ∨ f.t = 22 then subsB S ++ hdrB (-1) true else fldB f
def subsB : List OpC → List UInt8
  | [] => []
  | x :: r => (hdrB x.f.t false ++ x.putB) ++ subsB r
end
theorem put_plain {w0 w : World} {lo : Option Nat} (f : OpF) (d a k0 k1 k2 k3 k4 i s : Sl) (base g : Nat) (v : Value) (l : List UInt8) (ht : ¬ (f.t = 14 ∨ f.t = 22)) (h : FAt w0 lo f d a k0 k1 k2 k3 k4 i) (hw : w0.heap.size ≤ base) (hg : base ≤ g) (hb0 : Below w0.heap.size w0 w) (hv : Wr w base g v l) (hbase : base ≤ w.heap.size) (hsz : l.length + (fldB f).length + 64 ≤ 140737488355328) :
    Calls Tryz.prog 23 #[.pointer (some ⟨g, 0, none⟩), .agg (f.row d a k0 k1 k2 k3 k4 i s).toArray] w fun e w' => e = .returned (.tuple #[]) ∧ ∃ v', Wrote base g v v' l (fldB f) w w' := by
  by_cases hn : f.t ∈ ([1, 15, 19, 21, 2, 13, 5, 7, 120, 121, 6, 9, 103, 104, 3, 4, 8, 12, 101, 106, 18, -10, 14, 22] : List Int)
  · simp only [List.mem_cons, List.not_mem_nil, or_false] at hn
    rcases hn with hc | hc | hc | hc | hc | hc | hc | hc | hc | hc | hc | hc | hc | hc | hc | hc | hc | hc | hc | hc | hc | hc | hc | hc
    · exact put_g0 1 (by decide) f d a k0 k1 k2 k3 k4 i s base g v l hc h hw hg hb0 hv hbase hsz
    · exact put_g0 15 (by decide) f d a k0 k1 k2 k3 k4 i s base g v l hc h hw hg hb0 hv hbase hsz
    · exact put_g0 19 (by decide) f d a k0 k1 k2 k3 k4 i s base g v l hc h hw hg hb0 hv hbase hsz
    · exact put_g1 21 (by decide) f d a k0 k1 k2 k3 k4 i s base g v l hc h hw hg hb0 hv hbase hsz
    · exact put_g2 2 (by decide) f d a k0 k1 k2 k3 k4 i s base g v l hc h hw hg hb0 hv hbase hsz
    · exact put_g2 13 (by decide) f d a k0 k1 k2 k3 k4 i s base g v l hc h hw hg hb0 hv hbase hsz
    · exact put_g3 5 (by decide) f d a k0 k1 k2 k3 k4 i s base g v l hc h hw hg hb0 hv hbase hsz
    · exact put_g4 7 (by decide) f d a k0 k1 k2 k3 k4 i s base g v l hc h hw hg hb0 hv hbase hsz
    · exact put_g5 120 (by decide) f d a k0 k1 k2 k3 k4 i s base g v l hc h hw hg hb0 hv hbase hsz
    · exact put_g6 121 (by decide) f d a k0 k1 k2 k3 k4 i s base g v l hc h hw hg hb0 hv hbase hsz
    · exact put_g6 6 (by decide) f d a k0 k1 k2 k3 k4 i s base g v l hc h hw hg hb0 hv hbase hsz
    · exact put_g6 9 (by decide) f d a k0 k1 k2 k3 k4 i s base g v l hc h hw hg hb0 hv hbase hsz
    · exact put_g6 103 (by decide) f d a k0 k1 k2 k3 k4 i s base g v l hc h hw hg hb0 hv hbase hsz
    · exact put_g6 104 (by decide) f d a k0 k1 k2 k3 k4 i s base g v l hc h hw hg hb0 hv hbase hsz
    · exact put_g7 3 (by decide) f d a k0 k1 k2 k3 k4 i s base g v l hc h hw hg hb0 hv hbase hsz
    · exact put_g7 4 (by decide) f d a k0 k1 k2 k3 k4 i s base g v l hc h hw hg hb0 hv hbase hsz
    · exact put_g7 8 (by decide) f d a k0 k1 k2 k3 k4 i s base g v l hc h hw hg hb0 hv hbase hsz
    · exact put_g7 12 (by decide) f d a k0 k1 k2 k3 k4 i s base g v l hc h hw hg hb0 hv hbase hsz
    · exact put_101 f d a k0 k1 k2 k3 k4 i s base g v l hc h hw hg hb0 hv hbase hsz
    · exact put_g8 106 (by decide) f d a k0 k1 k2 k3 k4 i s base g v l hc h hw hg hb0 hv hbase hsz
    · exact put_g8 18 (by decide) f d a k0 k1 k2 k3 k4 i s base g v l hc h hw hg hb0 hv hbase hsz
    · exact put_g9 (-10) (by decide) f d a k0 k1 k2 k3 k4 i s base g v l hc h hw hg hb0 hv hbase hsz
    · exact absurd (Or.inl hc) ht
    · exact absurd (Or.inr hc) ht
  · exact put_none f d a k0 k1 k2 k3 k4 i s base g v l hn h hw hg hb0 hv hbase hsz

set_option maxRecDepth 100000 in
set_option maxHeartbeats 4000000 in
theorem opPut_any {w0 : World} {lo : Option Nat} {x : OpC} {xs : List Value} (h : At w0 lo x xs) : ∀ (w : World) (base g : Nat) (v : Value) (l : List UInt8), w0.heap.size ≤ base → base ≤ g → Below w0.heap.size w0 w → Wr w base g v l → base ≤ w.heap.size → l.length + x.putB.length + 64 ≤ 140737488355328 →
    Calls Tryz.prog 23 #[.pointer (some ⟨g, 0, none⟩), .agg xs.toArray] w fun e w' => e = .returned (.tuple #[]) ∧ ∃ v', Wrote base g v v' l x.putB w w' := by
  induction h with
  | mk f d a k0 k1 k2 k3 k4 i s Q ok hd ha hk0 hk1 hk2 hk3 hk4 hi hs hQ ih =>
    intro w base g v l hw hg hb0 hv hbase hsz
    rw [OpC.putB] at hsz ⊢
    by_cases ht : f.t = 14 ∨ f.t = 22
    rotate_left
    · rw [if_neg ht] at hsz ⊢
      exact put_plain f d a k0 k1 k2 k3 k4 i s base g v l ht ⟨hd, ha, hk0, hk1, hk2, hk3, hk4, hi⟩ hw hg hb0 hv hbase hsz
    rw [if_pos ht] at hsz ⊢
    have HS0 := PutSt.mk' (f.row d a k0 k1 k2 k3 k4 i s).toArray hw hg hb0 hv hbase
    obtain ⟨cs, hcs⟩ : ∃ cs : Array Value, cs = (f.row d a k0 k1 k2 k3 k4 i s).toArray := ⟨_, rfl⟩
    obtain ⟨w1, hw1⟩ : ∃ w1, w.alloc (.cells (f.row d a k0 k1 k2 k3 k4 i s).toArray 29) = w1 := ⟨_, rfl⟩
    rw [hw1] at HS0
    have HS := Lib.hid HS0
    have HP0 : Hid (Wrote base g v v l [] w1 w1) := Wrote.start HS0.wr
    have d18 := HS0.cell HP0.out 18 (u := .slice s.A s.n s.c) rfl
    have d00 := HS0.cell HP0.out 0 (u := .int .i32 f.t) rfl
    have HR : Hid (Reads w0 w0.heap.size 19 s.A s.n (Q.flatMap Prod.snd)) := hs.reads
    have HQA : Hid (∀ q ∈ Q, At w0 lo q.1 q.2) := hQ
    have HSL : Hid (Q.length = s.n) := hs.len
    have HIH : Hid (∀ q ∈ Q, ∀ (w : World) (base g : Nat) (v : Value) (l : List UInt8), w0.heap.size ≤ base → base ≤ g → Below w0.heap.size w0 w → Wr w base g v l → base ≤ w.heap.size → l.length + q.1.putB.length + 64 ≤ 140737488355328 →
      Calls Tryz.prog 23 #[.pointer (some ⟨g, 0, none⟩), .agg q.2.toArray] w fun e w' => e = .returned (.tuple #[]) ∧ ∃ v', Wrote base g v v' l q.1.putB w w') := ih
    have hlen : s.n ≤ 4611686018427387904 := hs.bd (by decide)
    obtain ⟨S, hS⟩ : ∃ S, S = Q.map Prod.fst := ⟨_, rfl⟩
    have HSQ := Lib.hid hS
    rw [← hS] at hsz ⊢
    simp only [List.length_append, hdrB_len] at hsz
    rw [← hcs] at hw1 ⊢
    clear ih hs hd ha hk0 hk1 hk2 hk3 hk4 hi hQ ok hb0 hS hcs HS0 hv hw hg hbase
    obtain ⟨A, N, c⟩ := s
    dsimp only at HR HSL hlen d18
    rcases ht with ht | ht
    all_goals
      rw [ht] at d00
      clear ht
      go_enter Tryz.func23, Tryz.ntmps23
      go_wp2
      clear d00 d18
      go_loopw [170] (fun vi wr => ∃ (k : Nat) (v2 : Value) (pre : List UInt8), k ≤ N ∧ vi = .int .i64 (k : Int) ∧ Hid (subsB S = pre ++ subsB (S.drop k)) ∧ Hid (Wrote base g v v2 l pre w1 wr)) (fun vi _ => N - (intOf vi).toNat)
      case atStart => exact ⟨0, v, [], by omega, by go_num, (by unfold Hid; simp), HP0.out⟩
      case round =>
        clear HP0
        obtain ⟨k, v2, pre, hk, rfl, HK, HW⟩ := hrel
        by_cases hkn : k < N
        · have hkQ : k < Q.length := by rw [HSL.out]; exact hkn
          obtain ⟨ad, hA, hrow⟩ := rowAt (HR.out.below (HS.out.below HW.out)) HQA.out hkQ HSL.out
          subst hA
          have hdrop : S.drop k = (Q[k]).1 :: S.drop (k + 1) := by
            rw [HSQ.out, List.drop_eq_getElem_cons (by simpa using hkQ)]
            simp
          have hih := HIH.out (Q[k]) (List.getElem_mem _)
          have hx0 := (HQA.out (Q[k]) (List.getElem_mem _)).c0
          obtain ⟨⟨x, xc⟩, hx⟩ : ∃ x, x = Q[k] := ⟨_, rfl⟩
          rw [← hx] at hrow hdrop hih hx0
          dsimp only at hrow hdrop hih hx0
          have hk' := HK.out
          rw [hdrop, subsB] at hk'
          have hle : (subsB S).length = pre.length + (9 + x.putB.length + (subsB (S.drop (k + 1))).length) := by rw [hk']; simp only [List.length_append, hdrB_len]
          have HK2 : Hid (subsB S = (pre ++ (hdrB x.f.t false ++ x.putB)) ++ subsB (S.drop (k + 1))) := by unfold Hid; rw [hk']; simp only [List.append_assoc]
          have HROW := Lib.hid hrow
          have HIK := Lib.hid hih
          obtain ⟨w2, hw2⟩ : ∃ w2, wr.alloc (.cells xc.toArray 29) = w2 := ⟨_, rfl⟩
          have hn2 : Blk w2 wr.heap.size 29 xc.toArray := by rw [← hw2]; exact Blk.new _ _ _
          have hb2 : Below wr.heap.size wr w2 := by rw [← hw2]; exact (Below.refl _ _).alloc (Nat.le_refl _) _
          have cx0 := blk_cell hn2 0 (by simpa using hx0)
          have HN2 := Lib.hid hn2
          have HNE : Hid (wr.heap.size ∉ g :: v2.ownBlock.toList) := fun hx => by
            rcases List.mem_cons.1 hx with hx | hx
            · have := HW.out.1.lt
              omega
            · have := (HW.out.1.2.lt wr.heap.size (by simpa using hx)).2
              omega
          have HW2 := Lib.hid (HW.out.later hb2)
          generalize hxt : x.f.t = xt at cx0
          have HXT := Lib.hid hxt
          clear hx hrow hdrop hih hx0 hk' hn2 hb2 hxt hkQ
          go_wp2_with (first
            | (refine wpList_load_at (by rfl) 29 (.tmp 172) rfl (ad.add (k * 19)) rfl xc _ HROW.out.cells Tryz.underlying29 rfl HROW.out.info ?_)
            | (refine wpList_newrow rfl rfl 29 rfl 7 rfl (.tmp 173) rfl rfl xc.toArray (fun _ => rfl) (show 7 < 184 by decide) HROW.out.zero HROW.out.infoA HROW.out.one ?_
               rw [hw2])
            | (go_at_call 49
               refine (header_any base g v2 _ xt false _ HW2.out.1 (HS.out.le HW2.out) (by simp only [List.length_append]; omega)).mono ?_
               rintro e w3 ⟨rfl, v3, hp⟩
               have HW3 := Lib.hid (HW2.out.cat (Below.refl _ _) hp)
               have HN3 : Hid (Blk w3 wr.heap.size 29 xc.toArray) := HN2.out.kp hp.2.1 HNE.out
               clear hp cx0)
            | (refine wpList_load_row rfl 29 (.tmp 7) rfl wr.heap.size rfl 29 _ _ _ HN3.out Tryz.underlying29 rfl HROW.out.infoA ?_)
            | (go_at_call 23
               refine (HIK.out _ base g v3 _ HS.out.base0 HS.out.bg (HS.out.below HW3.out) HW3.out.1 (HS.out.le HW3.out) (by simp only [List.length_append, bInt_len, bBool, List.length_singleton]; omega)).mono ?_
               rintro e w4 ⟨rfl, v4, hp⟩
               have HW4 := Lib.hid (HW3.out.cat (Below.refl _ _) hp)
               clear hp))
          go_roundw
          case rel => exact ⟨k + 1, v4, pre ++ (hdrB x.f.t false ++ x.putB), by omega, by go_num, HK2.out, (by unfold Hid hdrB; rw [HXT.out, ← List.append_assoc]; exact HW4.out)⟩
          case measure => simp [intOf]; omega
        · have hkk : k = N := by omega
          subst hkk
          have hpe : subsB S = pre := by
            have h := HK.out
            rwa [List.drop_eq_nil_of_le (by rw [HSQ.out, List.length_map, HSL.out]; exact Nat.le_refl _), subsB, List.append_nil] at h
          rw [hpe] at hsz
          have HPE := Lib.hid hpe
          clear HK hpe
          go_wp2_with (first
            | (go_at_call 49
               refine (header_any base g v2 _ (-1) true _ HW.out.1 (HS.out.le HW.out) (by simp only [List.length_append]; omega)).mono ?_
               rintro e w3 ⟨rfl, v3, hp⟩
               have HW3 := Lib.hid (HW.out.cat (Below.refl _ _) hp)
               clear hp))
          go_end0
          exact ⟨rfl, v3, by rw [HPE.out]; exact HW3.out.from HS.out.b1⟩
end Go.Proofs.YtpjjnmdfgcfnmaaGreatDoor
/- ops.Encode. -/
namespace Go.Proofs.YtpjjnmdfgcfnmaaGreatDoor
open Go.RowKit

theorem bTexts_le (L : List ByteArray) : (bTexts L).length ≤ 4 * bulkS L := by
  unfold bTexts bulkS
  induction L with
  | nil => simp
  | cons x r ih =>
    rw [List.flatMap_cons, List.length_append, List.map_cons, List.sum_cons, bBuf_len, ← bsize_eq]
    omega
theorem pIdsB_le (L : List (ByteArray × ByteArray)) : (pIdsB L).length ≤ 3 * bulkI L := by
  unfold pIdsB bulkI
  induction L with
  | nil => simp
  | cons x r ih =>
    rw [List.flatMap_cons, List.length_append, List.map_cons, List.sum_cons, pIdB_len]
    omega
theorem pAclsB_le (L : List AclT) : (pAclsB L).length ≤ 3 * bulkA L := by
  unfold pAclsB bulkA
  induction L with
  | nil => simp
  | cons x r ih =>
    rw [List.flatMap_cons, List.length_append, List.map_cons, List.sum_cons, pAclB_len]
    omega
set_option maxHeartbeats 2000000 in
theorem fldB_le (f : OpF) : (fldB f).length + 18 ≤ 5 * f.bulk := by
  have h0 := bTexts_le f.K0
  have h1 := bTexts_le f.K1
  have h2 := bTexts_le f.K2
  have h3 := bTexts_le f.K3
  have h4 := bTexts_le f.K4
  have h5 := pIdsB_le f.I
  have h6 := pAclsB_le f.L
  have hs := bsize_eq f.p
  have h7 : (pListsB f).length = 20 + (bTexts f.K0).length + (bTexts f.K1).length + (bTexts f.K2).length + (bTexts f.K3).length + (bTexts f.K4).length := by
    unfold pListsB OpF.lists
    simp only [List.flatMap_cons, List.flatMap_nil, List.length_append, bInt_len, List.length_nil]
    omega
  have hb : f.bulk = 20 + f.p.size + f.l.length + bulkA f.L + bulkS f.K0 + bulkS f.K1 + bulkS f.K2 + bulkS f.K3 + bulkS f.K4 + bulkI f.I := rfl
  rw [hb]
  clear hb
  obtain ⟨n7, h8⟩ : ∃ n, n = (pListsB f).length := ⟨_, rfl⟩
  generalize bulkA f.L = b1 at h6
  generalize bulkI f.I = b2 at h5
  unfold fldB
  split
  · simp only [List.length_append, bBuf_len, bInt_len, bLong_len, bBool, List.length_singleton, List.length_nil, ← bsize_eq]
    omega
  split
  · simp only [List.length_append, bBuf_len, bInt_len, bLong_len, bBool, List.length_singleton, List.length_nil, ← bsize_eq]
    omega
  split
  · simp only [List.length_append, bBuf_len, bInt_len, bLong_len, bBool, List.length_singleton, List.length_nil, ← bsize_eq]
    omega
  split
  · simp only [List.length_append, bBuf_len, bInt_len, bLong_len, bBool, List.length_singleton, List.length_nil, ← bsize_eq]
    omega
  split
  · simp only [List.length_append, bBuf_len, bInt_len, bLong_len, bBool, List.length_singleton, List.length_nil, ← bsize_eq]
    omega
  split
  · simp only [List.length_append, bBuf_len, bInt_len, bLong_len, bBool, List.length_singleton, List.length_nil, ← bsize_eq]
    omega
  split
  · simp only [List.length_append, bBuf_len, bInt_len, bLong_len, bBool, List.length_singleton, List.length_nil, ← bsize_eq]
    omega
  split
  · simp only [List.length_append, bBuf_len, bInt_len, bLong_len, bBool, List.length_singleton, List.length_nil, ← bsize_eq]
    omega
  split
  · simp only [List.length_append, bBuf_len, bInt_len, bLong_len, bBool, List.length_singleton, List.length_nil, ← bsize_eq]
    omega
  split
  · simp only [List.length_append, bBuf_len, bInt_len, bLong_len, bBool, List.length_singleton, List.length_nil, ← bsize_eq]
    omega
  split
  · rename_i h101
    have : pListsB f = pListsB f := rfl
    simp only [List.length_append, bLong_len]
    omega
  · simp only [List.length_nil]
    omega
mutual
theorem OpC.putB_le : ∀ x : OpC, x.putB.length + 9 ≤ 5 * x.bulk
  | .mk f S => by
    have h1 := fldB_le f
    have h2 := subsB_le S
    rw [OpC.putB, OpC.bulk]
    have h3 : 20 ≤ f.bulk := by unfold OpF.bulk; omega
    split
    · rw [List.length_append, hdrB_len]; omega
    · omega
theorem subsB_le : ∀ S : List OpC, (subsB S).length ≤ 5 * bulkL S
  | [] => by rw [subsB, bulkL]; simp
  | x :: r => by
    have h1 := OpC.putB_le x
    have h2 := subsB_le r
    rw [subsB, bulkL]
    simp only [List.length_append, hdrB_len]
    omega
end
/-- the error of a request that is to be written -/
def OpC.encE (x : OpC) : Int := if x.rightE ≠ 0 then x.rightE else if kindN x.f.t = 5 then 110 else 0
/-- a request's bytes -/
def encB (xid : Int) (x : OpC) : List UInt8 := bInt xid ++ bInt x.f.t ++ x.putB
/-- what Encode answers -/
def Encoded (w : World) (xid : Int) (x : OpC) (e : Ending) (w' : World) : Prop :=
  Below w.heap.size w w' ∧ ((x.encE ≠ 0 ∧ e = .returned (.tuple #[.slice none 0 0, .int .i64 x.encE])) ∨
    (x.encE = 0 ∧ ∃ base A c, w.heap.size ≤ base ∧ e = .returned (.tuple #[.slice A (encB xid x).length c, .int .i64 0]) ∧ w'.ownsRow base 5 1 (.slice A (encB xid x).length c) (encB xid x).length (bcells (encB xid x))))
set_option maxRecDepth 100000 in
set_option maxHeartbeats 4000000 in
theorem encode_any {w : World} {lo : Option Nat} {x : OpC} {xs : List Value} (xid : Int) (h : At w lo x xs) (E : Env w) (hb : x.bulk ≤ 1000000000) :
    Calls Tryz.prog 21 #[.agg (.int .i32 xid :: xs).toArray] w (Encoded w xid x) := by
  have HR : Hid (∀ W, Below w.heap.size w W → Calls Tryz.prog 13 #[.agg xs.toArray] W fun e w' => e = .returned (.int .i64 x.rightE) ∧ Below W.heap.size W w') := fun W hW => right_any (h.later hW) (E.below hW) hb
  have HP : Hid (∀ (W : World) (base g : Nat) (v : Value) (l : List UInt8), w.heap.size ≤ base → base ≤ g → Below w.heap.size w W → Wr W base g v l → base ≤ W.heap.size → l.length + x.putB.length + 64 ≤ 140737488355328 →
    Calls Tryz.prog 23 #[.pointer (some ⟨g, 0, none⟩), .agg xs.toArray] W fun e w' => e = .returned (.tuple #[]) ∧ ∃ v', Wrote base g v v' l x.putB W w') := opPut_any h
  have HK : Hid (∀ W, Calls Tryz.prog 11 #[.int .i32 x.f.t] W fun e w' => e = .returned (.int .i64 (kindN x.f.t)) ∧ w' = W) := fun W => kind_any x.f.t W
  have hpl := x.putB_le
  have hx0 := h.c0
  have h19 := h.len
  have HI19 : Hid ((Tryz.prog.info? 29).map (·.size) = some xs.length) := by unfold Hid; rw [h19]; exact isz_29
  obtain ⟨cs, hcs⟩ : ∃ cs : Array Value, cs = (Value.int .i32 xid :: xs).toArray := ⟨_, rfl⟩
  rw [← hcs]
  obtain ⟨w1, hw1⟩ : ∃ w1, w.alloc (.cells cs 44) = w1 := ⟨_, rfl⟩
  have hb1 : Below w.heap.size w w1 := by rw [← hw1]; exact (Below.refl _ _).alloc (Nat.le_refl _) _
  have hn1 : Blk w1 w.heap.size 44 (Value.int .i32 xid :: xs).toArray := by rw [← hcs, ← hw1]; exact Blk.new _ _ _
  have HB1 := Lib.hid hb1
  have HN1 := Lib.hid hn1
  have HRW : Hid (∀ W, Blk W w.heap.size 44 (Value.int .i32 xid :: xs).toArray → ∀ j v, xs[j]? = some v → W.cell? ((⟨w.heap.size, 1, none⟩ : Addr).add j) = some v) := fun W hB j v hv => by
    rw [Go.WideShapes.add_plain, Nat.add_comm]
    exact blk_cell hB (j + 1) (by simpa using hv)
  have HRW1 : Hid (∀ j v, xs[j]? = some v → w1.cell? ((⟨w.heap.size, 1, none⟩ : Addr).add j) = some v) := HRW.out w1 hn1
  have HX0 : Hid ((Value.int .i32 xid :: xs).toArray[1]? = some (.int .i32 x.f.t)) := by unfold Hid; simpa using hx0
  obtain ⟨re, hre⟩ : ∃ z, z = x.rightE := ⟨_, rfl⟩
  obtain ⟨kn, hkn⟩ : ∃ z, z = kindN x.f.t := ⟨_, rfl⟩
  obtain ⟨xt, hxt⟩ : ∃ z, z = x.f.t := ⟨_, rfl⟩
  obtain ⟨pb, hpb⟩ : ∃ z, z = x.putB := ⟨_, rfl⟩
  have hEE : x.encE = if re ≠ 0 then re else if kn = 5 then 110 else 0 := by unfold OpC.encE; rw [← hre, ← hkn]
  have hpn : pb.length ≤ 5000000000 := by rw [hpb]; omega
  obtain ⟨K, hK⟩ : ∃ K, K = bInt xid ++ bInt xt ++ pb := ⟨_, rfl⟩
  have hEB : encB xid x = K := by unfold encB; rw [← hxt, ← hpb, ← hK]
  have hKl : K.length ≤ 5000000008 := by rw [hK]; simp only [List.length_append, bInt_len]; omega
  have HK7 := Lib.hid hK
  rw [← hre] at HR
  rw [← hkn, ← hxt] at HK
  rw [← hxt] at HX0
  rw [← hpb] at HP hpl
  unfold Encoded
  rw [hEE, hEB]
  clear hcs h E hb hb1 hn1 hre hkn hxt hpb hEE hEB hpl hx0 h19 hK
  by_cases ho : re = 0
  rotate_left
  · rw [if_pos ho]
    have hob : (re != 0) = true := by simpa using ho
    have HO := Lib.hid ho
    clear ho HP HK
    go_enter Tryz.func21, Tryz.ntmps21
    go_wp2_with (first
      | (refine wpList_load_at (by rfl) 29 (.tmp 6) rfl ⟨w.heap.size, 1, none⟩ rfl xs _ HRW1.out Tryz.underlying29 rfl HI19.out ?_)
      | (go_at_call 13
         refine (HR.out _ HB1.out).mono ?_
         rintro e w3 ⟨rfl, hb⟩
         have HB3 : Hid (Below w.heap.size w w3) := HB1.out.trans (hb.mono HB1.out.size)
         clear hb))
    go_ret2
    exact ⟨HB3.out, .inl ⟨HO.out, rfl⟩⟩
  rw [if_neg (by simpa using ho)]
  subst ho
  by_cases hk5 : kn = 5
  · rw [if_pos hk5]
    subst hk5
    clear HP
    go_enter Tryz.func21, Tryz.ntmps21
    go_wp2_with (first
      | (refine wpList_load_at (by rfl) 29 (.tmp 6) rfl ⟨w.heap.size, 1, none⟩ rfl xs _ HRW1.out Tryz.underlying29 rfl HI19.out ?_)
      | (go_at_call 13
         refine (HR.out _ HB1.out).mono ?_
         rintro e w3 ⟨rfl, hb⟩
         have HB3 : Hid (Below w.heap.size w w3) := HB1.out.trans (hb.mono HB1.out.size)
         have d1 := blk_cell (HN1.out.below hb HN1.out.lt) 1 HX0.out
         clear hb)
      | (go_at_call 11; refine (HK.out _).mono ?_; rintro e w4 ⟨rfl, he⟩; obtain rfl := he.symm))
    go_ret2
    exact ⟨HB3.out, .inl ⟨by decide, rfl⟩⟩
  rw [if_neg hk5]
  have hkb : (kn == 5) = false := by simpa using hk5
  clear hk5
  go_enter Tryz.func21, Tryz.ntmps21
  go_wp2_with (first
    | (refine wpList_load_at (by rfl) 29 (.tmp 6) rfl ⟨w.heap.size, 1, none⟩ rfl xs _ HRW1.out Tryz.underlying29 rfl HI19.out ?_)
    | (go_at_call 13
       refine (HR.out _ HB1.out).mono ?_
       rintro e w2 ⟨rfl, hb⟩
       have HB2 : Hid (Below w.heap.size w w2) := HB1.out.trans (hb.mono HB1.out.size)
       have HN2 := Lib.hid (HN1.out.below hb HN1.out.lt)
       have d1 := blk_cell HN2.out 1 HX0.out
       obtain ⟨w3, hw3⟩ : ∃ w3, w2.alloc (.cells #[.slice none 0 0] 50) = w3 := ⟨_, rfl⟩
       have hb23 : Below w2.heap.size w2 w3 := (by rw [← hw3]; exact (Below.refl _ _).alloc (Nat.le_refl _) _)
       have HW3 : Hid (Wr w3 w2.heap.size w2.heap.size (.slice none 0 0) []) := ⟨by rw [← hw3]; exact Blk.new _ _ _, World.ownsRow_nil _ _ _ _⟩
       have HB23 := Lib.hid hb23
       have HN3 := Lib.hid (HN2.out.below hb23 HN2.out.lt)
       have c0 := blk_cell HN3.out 0 (u := .int .i32 xid) rfl
       have hlt := HN2.out.lt
       have HNE : Hid (w.heap.size ∉ w2.heap.size :: (Value.slice none 0 0).ownBlock.toList) := (fun hx => by
         rcases List.mem_cons.1 hx with hx | hx
         · omega
         · simp [Value.ownBlock] at hx)
       clear hb hb23)
    | (go_at_call 11; refine (HK.out _).mono ?_; rintro e w4 ⟨rfl, he⟩; obtain rfl := he.symm; clear d1)
    | (go_at_call 40
       refine (wInt_any w2.heap.size w2.heap.size _ [] xid _ HW3.out HB23.out.size (by simp)).mono ?_
       rintro e w4 ⟨rfl, v4, hp⟩
       have HP4 := Lib.hid hp
       have e1 := blk_cell (HN3.out.kp hp.2.1 HNE.out) 1 HX0.out
       have hz4 := Nat.le_trans HB23.out.size hp.size
       clear hp c0)
    | (go_at_call 40
       refine (wInt_any w2.heap.size w2.heap.size _ _ xt _ HP4.out.1 hz4 (by simp only [List.length_append, bInt_len, List.length_nil]; omega)).mono ?_
       rintro e w5 ⟨rfl, v5, hp⟩
       have HP5 := Lib.hid (HP4.out.cat (Below.refl _ _) hp)
       have HR5 : Hid (∀ j v, xs[j]? = some v → w5.cell? ((⟨w.heap.size, 1, none⟩ : Addr).add j) = some v) := HRW.out _ (HN3.out.kp HP5.out.2.1 HNE.out)
       have hz5 := Nat.le_trans hz4 hp.size
       clear hp e1 HP4)
    | (refine wpList_load_at (by rfl) 29 (.tmp 29) rfl ⟨w.heap.size, 1, none⟩ rfl xs _ HR5.out Tryz.underlying29 rfl HI19.out ?_)
    | (go_at_call 23
       refine (HP.out _ w2.heap.size w2.heap.size _ _ HB2.out.size (Nat.le_refl _) (HB2.out.trans ((HB23.out.trans (HP5.out.below (Nat.le_refl _) (fun x hx => by simp [Value.ownBlock] at hx) HB23.out.size)).mono HB2.out.size)) HP5.out.1 hz5 (by simp only [List.length_append, bInt_len, List.length_nil]; omega)).mono ?_
       rintro e w6 ⟨rfl, v6, hp⟩
       have HP6 : Hid (Wrote w2.heap.size w2.heap.size (.slice none 0 0) v6 [] K w3 w6) := (by unfold Hid; rw [HK7.out]; exact HP5.out.cat (Below.refl _ _) hp)
       clear hp HP5 HR5)
    | (go_at_call 25
       refine (wBytes_any w2.heap.size w2.heap.size v6 K _ HP6.out.1 (by omega)).mono ?_
       rintro e w7 ⟨A7, c7, rfl, ho, hb⟩
       have HO7 := Lib.hid ho
       have HB7 := Lib.hid hb
       clear ho hb))
  go_ret2
  have hB6 : Below w.heap.size w w6 := HB2.out.trans ((HB23.out.trans (HP6.out.below (Nat.le_refl _) (fun x hx => by simp [Value.ownBlock] at hx) HB23.out.size)).mono HB2.out.size)
  exact ⟨hB6.trans (HB7.out.mono hB6.size), (by first | exact .inr ⟨trivial, w6.heap.size, A7, c7, hB6.size, rfl, HO7.out⟩ | exact .inr ⟨rfl, w6.heap.size, A7, c7, hB6.size, rfl, HO7.out⟩)⟩
end Go.Proofs.YtpjjnmdfgcfnmaaGreatDoor
