/- Part 16 of a proof: lemmas and walks. -/
import Derived.Test.YtpjjnmdfgcfnmaaGreatDoorK15
import Derived.Test.YtpjjnmdfgcfnmaaGreatDoorK13
import Derived.Test.YtpjjnmdfgcfnmaaGreatDoorK4
import Derived.Test.YtpjjnmdfgcfnmaaGreatDoorK14
import Derived.Test.YtpjjnmdfgcfnmaaGreatDoorK1
import Derived.Deep.Cut
set_option linter.unusedVariables false
set_option linter.unusedSimpArgs false
set_option maxRecDepth 100000
set_option maxHeartbeats 16000000
namespace Go.Proofs.YtpjjnmdfgcfnmaaGreatDoor
open Go.RowKit

def ltrB (c : UInt8) (f : OpF) : List UInt8 :=
 if c = 112 then bBuf f.p.data.toList else if c = 100 then bBuf f.l else if c = 97 then bInt f.L.length ++ pAclsB f.L else if c = 102 then bInt f.fl else if c = 118 then bInt f.ve else if c = 119 then bBool f.wa
 else if c = 99 then bLong f.ct ++ bLong f.by_ else if c = 108 then bLong f.tl else if c = 122 then bLong f.zx else if c = 107 then pListsB f else if c = 116 then bInt f.to else if c = 105 then bInt f.I.length ++ pIdsB f.I else []
def ltrsB (l : List UInt8) (f : OpF) : List UInt8 := l.flatMap fun c => ltrB c f
theorem ltrs_snoc (F : List UInt8) (f : OpF) (k : Nat) (h : k < F.length) : ltrsB (F.take (k + 1)) f = ltrsB (F.take k) f ++ ltrB F[k] f := by
 unfold ltrsB; rw [List.take_succ_eq_append_getElem h, List.flatMap_append]; simp
theorem ltrs_le (F : List UInt8) (f : OpF) (k : Nat) (h : k < F.length) : (ltrsB (F.take k) f).length + (ltrB F[k] f).length ≤ (ltrsB F f).length := by
 have e : ltrsB F f = ltrsB (F.take (k + 1)) f ++ ltrsB (F.drop (k + 1)) f := by unfold ltrsB; rw [← List.flatMap_append, List.take_append_drop]
 rw [e, zG, ltrs_snoc F f k h, zG]
 omega
def putN (t : Int) : List UInt8 := if kindN t = 5 then [] else fieldsN t
def putT : List Int := [1, 15, 19, 21, 2, 13, 5, 7, 120, 121, 6, 9, 103, 104, 20, 3, 4, 8, 12, 106, 18, -10, 101]
theorem putN_out {t : Int} (h : t ∉ putT) (h14 : ¬ (t = 14 ∨ t = 22)) : putN t = [] := by
 unfold putN
 split
 · rfl
 unfold fieldsN
 rcases hf : fieldsL.find? (fun x => x.1 == t) with _ | x
 · rw [hf]; rfl
 · exfalso
   have h1 := List.mem_of_find?_eq_some hf
   have h2 := List.find?_some hf
   have h3 : x.1 = t := by simpa using h2
   have h4 : ∀ x ∈ fieldsL, x.1 ∈ putT ∨ x.1 = 14 ∨ x.1 = 22 := by decide
   rw [← h3] at h h14
   rcases h4 x h1 with h5 | h5
   · exact h h5
   · exact h14 h5
theorem fld_ltrs (f : OpF) (h : ¬ (f.t = 14 ∨ f.t = 22)) : ltrsB (putN f.t) f = fldB f := by
 by_cases ht : f.t ∈ putT
 · simp only [putT, zH, zI, or_false] at ht
   unfold fldB
   rcases ht with ht | ht | ht | ht | ht | ht | ht | ht | ht | ht | ht | ht | ht | ht | ht | ht | ht | ht | ht | ht | ht | ht | ht
   all_goals
    rw [ht]
    simp [ltrsB, ltrB, putN, kindN, kindL, fieldsN, fieldsL, zL]
 · rw [putN_out ht h]
   unfold fldB
   simp only [putT, zH, zI, or_false, not_or] at ht
   obtain ⟨h1, h2, h3, h4, h5, h6, h7, h8, h9, h10, h11, h12, h13, h14, h15, h16, h17, h18, h19, h20, h21, h22, h23⟩ := ht
   simp [ltrsB, *]
theorem letters_put {t : Int} (h : ¬ (t = 14 ∨ t = 22)) : ∀ c ∈ putN t, c ∈ ([112, 100, 97, 102, 118, 119, 108, 116, 105, 99, 122, 107] : List UInt8) := by
 by_cases ht : t ∈ putT
 · have h4 : ∀ x ∈ putT, ∀ c ∈ putN x, c ∈ ([112, 100, 97, 102, 118, 119, 108, 116, 105, 99, 122, 107] : List UInt8) := by decide +kernel
   exact h4 t ht
 · rw [putN_out ht h]
   intro c hc
   cases hc
theorem putN_short (t : Int) : (putN t).length ≤ 1000 := by
 unfold putN
 split
 · simp
 unfold fieldsN
 rcases hf : fieldsL.find? (fun x => x.1 == t) with _ | x
 · rw [hf]; simp
 · have h1 := List.mem_of_find?_eq_some hf
   have h4 : ∀ x ∈ fieldsL, x.2.length ≤ 1000 := by decide
   rw [hf]
   exact h4 x h1
def listsB (L : List (List ByteArray)) : List UInt8 := L.flatMap fun x => bInt x.length ++ bTexts x
theorem lists_snoc (L : List (List ByteArray)) (k : Nat) (h : k < L.length) : listsB (L.take (k + 1)) = listsB (L.take k) ++ (bInt L[k].length ++ bTexts L[k]) := by
 unfold listsB; rw [List.take_succ_eq_append_getElem h, List.flatMap_append]; simp
theorem lists_le (L : List (List ByteArray)) (k : Nat) (h : k < L.length) : (listsB (L.take k)).length + 4 + (bTexts L[k]).length ≤ (listsB L).length := by
 have e : listsB L = listsB (L.take (k + 1)) ++ listsB (L.drop (k + 1)) := by unfold listsB; rw [← List.flatMap_append, List.take_append_drop]
 rw [e, zG, lists_snoc L k h, zG, zG, bInt_len]
 omega
theorem texts_snoc (L : List ByteArray) (k : Nat) (h : k < L.length) : bTexts (L.take (k + 1)) = bTexts (L.take k) ++ bBuf L[k].data.toList := by
 unfold bTexts; rw [List.take_succ_eq_append_getElem h, List.flatMap_append]; simp
theorem texts_le (L : List ByteArray) (k : Nat) (h : k < L.length) : (bTexts (L.take k)).length + 4 + L[k].size ≤ (bTexts L).length := by
 have e : bTexts L = bTexts (L.take (k + 1)) ++ bTexts (L.drop (k + 1)) := by unfold bTexts; rw [← List.flatMap_append, List.take_append_drop]
 rw [e, zG, texts_snoc L k h, zG, bBuf_len, bsize_eq]
 omega
def Putted (base : Nat) (ib k : List UInt8) (w : World) (e : Ending) (w' : World) : Prop := ∃ v', e = .returned v' ∧ Rb w' base v' (ib ++ k) ∧ Below base w w' ∧ Keeps w w'
theorem conv_u64 (z : Int) (w : World) : (convert 2 69 (.int .i64 z)).run Tryz.prog w = .ok (.int .u64 (IntKind.u64.wrap z)) w := by
 simp [go_sem, zU2, zU69]

theorem refPut_plain {w0 w : World} {lo : Option Nat} (f : OpF) (d a k0 k1 k2 k3 k4 i s : Sl) (base : Nat) (v : Value) (l : List UInt8) (ht : ¬ (f.t = 14 ∨ f.t = 22)) (h : FAt w0 lo f d a k0 k1 k2 k3 k4 i) (hw0 : w0.heap.size ≤ base) (hb0 : Below w0.heap.size w0 w) (hv : Rb w base v l) (hbase : base ≤ w.heap.size) (hsz : l.length + (fldB f).length + 64 ≤ 140737488355328) :
 Calls Tryz.prog 26 #[v, .agg (f.row d a k0 k1 k2 k3 k4 i s).toArray] w (Putted base l (fldB f) w) := by
 rw [← fld_ltrs f ht] at hsz ⊢
 have HLET := Hi (letters_put ht)
 obtain ⟨w1, hw1⟩ := xa w (f.row d a k0 k1 k2 k3 k4 i s).toArray 29
 have HS1 := Hi (newK hw1)
 have hb1 := newB hw1
 have HB1 : Hid (Below base w w1) := hb1.mono hbase
 have HR1 : Hid (Rb w1 base v l) := hv.later hb1
 have hk1 : Keeps w w1 := by rw [← hw1]; exact (Keeps.refl w).alloc _
 have HK01 := Hi hk1
 have HW : Hid (∀ W, Below base w1 W → Below w0.heap.size w0 W) := fun W hW => hb0.trans (((hb1.mono hbase).trans hW).mono hw0 |>.mono zR)
 have HF := Hi h
 have hz1 : base ≤ w1.heap.size := Nat.le_trans hbase hb1.size
 obtain ⟨kn, hkn⟩ : ∃ k, k = kindN f.t := ⟨_, rfl⟩
 have HK : Hid (∀ W, Calls Tryz.prog 12 #[.int .i32 f.t] W fun e w' => e = .returned (.int .i64 kn) ∧ w' = W) := fun W => by rw [hkn]; exact refKind_any f.t W
 obtain ⟨F, hF⟩ : ∃ F, F = putN f.t := ⟨_, rfl⟩
 rw [← hF] at HLET hsz ⊢
 obtain ⟨G, hG⟩ : ∃ G, G = fieldsN f.t := ⟨_, rfl⟩
 have HFI : Hid (∀ W, Calls Tryz.prog 54 #[.int .i32 f.t] W fun e w' => e = .returned (.string ⟨G.toArray⟩) ∧ w' = W) := fun W => by rw [hG]; exact fields_any f.t W
 obtain ⟨s3, hs3⟩ : ∃ s3 : ByteArray, s3 = ⟨F.toArray⟩ := ⟨_, rfl⟩
 have hsz3 : s3.size = F.length := by rw [hs3]; simp [ByteArray.size]
 have HIX : Hid (∀ W (k : Nat) (hk : k < F.length), (Instr.index 9 (.string s3) (.int .i64 (k : Int))).run Tryz.prog W = .ok (.int .u8 ((F[k]).toNat : Int)) W) := fun W k hk => by
  have hks : k < s3.size := by rw [hsz3]; exact hk
  rw [run_index_string W _ s3 .i64 k zU9, dif_pos ⟨by omega, by omega⟩]
  subst hs3
  rfl
 have hFl : F.length ≤ 1000 := by rw [hF]; exact putN_short _
 have hrow : ∀ W, Hid (Blk W w.heap.size 29 (f.row d a k0 k1 k2 k3 k4 i s).toArray) → W.cell? ⟨w.heap.size, 0, none⟩ = some (.int .i32 f.t) := fun W h => yC h.out 0 rfl
 have c0 := hrow w1 HS1
 have hcase : (kn == 5) = true ∧ F = [] ∨ (kn == 5) = false ∧ F = G := by
  rw [hF, hG, hkn]
  unfold putN
  by_cases h5 : kindN f.t = 5
  · exact .inl ⟨by simp [h5], by simp [h5]⟩
  · exact .inr ⟨by simpa using h5, by simp [h5]⟩
 clear hkn hF hG h hv hb0 hb1 hk1 hrow ht
 obtain ⟨cs, hcs⟩ : ∃ cs : Array Value, cs = (f.row d a k0 k1 k2 k3 k4 i s).toArray := ⟨_, rfl⟩
 have HCS := Hi hcs
 rw [← hcs] at hw1 ⊢
 clear hcs
 rcases hcase with ⟨h5, hFe⟩ | ⟨h5, hFe⟩
 · subst hFe
   subst hs3
   go_enter Tryz.func26, Tryz.ntmps26
   go_wp2_with (first
    | (go_at_call 54
       refine (HFI.out _).mono ?_
       rintro e w2 ⟨rfl, he⟩
       obtain rfl := he.symm)
    | (go_at_call 12
       refine (HK.out _).mono ?_
       rintro e w2 ⟨rfl, he⟩
       obtain rfl := he.symm))
   refine wp_loop_rounds 1 ?_
   rw [rounds_succ]
   go_wp2
   go_ret
   exact ⟨_, rfl, by simpa [ltrsB] using HR1.out, HB1.out, HK01.out⟩
 subst hFe
 rw [← hs3] at HFI
 clear hs3
 go_enter Tryz.func26, Tryz.ntmps26
 go_wp2_with (first
  | (go_at_call 54
     refine (HFI.out _).mono ?_
     rintro e w2 ⟨rfl, he⟩
     obtain rfl := he.symm)
  | (go_at_call 12
     refine (HK.out _).mono ?_
     rintro e w2 ⟨rfl, he⟩
     obtain rfl := he.symm))
 clear h5 HK HFI c0
 go_loopw [0, 6] (fun u v6 wr => ∃ k : Nat, k ≤ F.length ∧ v6 = .int .i64 (k : Int) ∧ Rb wr base u (l ++ ltrsB (F.take k) f) ∧ Below base w1 wr ∧ Keeps w1 wr) (fun _ v6 _ => F.length - (intOf v6).toNat)
 case atStart => exact ⟨0, by omega, rfl, by simpa [ltrsB] using HR1.out, Below.refl _ _, Keeps.refl _⟩
 case round =>
  obtain ⟨k, hk, rfl, hR, hBe, hKe⟩ := hrel
  have HR0 := Hi hR
  have HB := Hi hBe
  have HK := Hi hKe
  have hbw : base ≤ wr.heap.size := Nat.le_trans hz1 hBe.size
  by_cases hlt : k < F.length
  rotate_left
  · have hkl : k = F.length := by omega
    rw [hkl, List.take_length] at hR
    have HRR := Hi hR
    clear hR hBe hKe
    go_wp2
    go_ret
    exact ⟨_, rfl, HRR.out, HB1.out.trans HB.out, HK01.out.trans HK.out⟩
  · have hx := HIX.out wr k hlt
    have hm := HLET.out _ (List.getElem_mem hlt)
    have hsn := ltrs_snoc F f k hlt
    have hle := ltrs_le F f k hlt
    obtain ⟨cc, hc⟩ : ∃ cc, cc = F[k] := ⟨_, rfl⟩
    rw [← hc] at hx hm hsn hle
    simp only [zH, zI, or_false] at hm
    obtain ⟨ib, hib⟩ : ∃ ib, ib = l ++ ltrsB (F.take k) f := ⟨_, rfl⟩
    have hil : ib.length + (ltrB cc f).length + 64 ≤ 140737488355328 := by rw [hib, zG]; omega
    have HNX : Hid (l ++ ltrsB (F.take (k + 1)) f = ib ++ ltrB cc f) := by unfold Hid; rw [hsn, ← zL, ← hib]
    rw [← hib] at hR
    have HR := Hi hR
    have HS : Hid (Blk wr w.heap.size 29 (f.row d a k0 k1 k2 k3 k4 i s).toArray) := hKe _ _ _ (by decide) HS1.out
    clear hR hBe hKe hc hsn hle hib HR0
    rcases hm with rfl | rfl | rfl | rfl | rfl | rfl | rfl | rfl | rfl | rfl | rfl | rfl

    · -- p
      have hx' : (Instr.index 9 (.string s3) (.int .i64 (k : Int))).run Tryz.prog wr = .ok (.int .u8 112) wr := hx
      have HE : Hid (ltrB 112 f = bBuf f.p.data.toList) := by unfold Hid; simp [ltrB]
      rw [HE.out] at hil
      have HL : Hid (ib.length + (bBuf f.p.data.toList).length + 64 ≤ 140737488355328) := hil
      clear hx hil
      have d1 := yC HS.out 1 (u := .string f.p) rfl
      go_wp2_with (go_at_call 55; refine (refText_any base u0 ib f.p wr HR.out hbw (by have := HL.out; rw [bBuf_len, ← bsize_eq] at this; omega)).mono ?_; rintro e w2 ⟨v2, rfl, hr, hb, hk⟩; have HR2 := Hi hr; have HB2 := Hi (HB.out.trans hb); have HK2 := Hi (HK.out.trans hk); clear hr hb hk)
      go_roundw
      case rel => exact ⟨k + 1, by omega, by go_num, by rw [HNX.out, HE.out]; exact HR2.out, HB2.out, HK2.out⟩
      case measure => simp [intOf]; omega
    · -- d
      have hx' : (Instr.index 9 (.string s3) (.int .i64 (k : Int))).run Tryz.prog wr = .ok (.int .u8 100) wr := hx
      have HE : Hid (ltrB 100 f = bBuf f.l) := by unfold Hid; simp [ltrB]
      rw [HE.out] at hil
      have HL : Hid (ib.length + (bBuf f.l).length + 64 ≤ 140737488355328) := hil
      clear hx hil
      have hfl : (⟨f.l.toArray⟩ : ByteArray).size = f.l.length := by simp [ByteArray.size]
      have d2 := yC HS.out 2 (u := .slice d.A d.n d.c) rfl
      have hcv := run_string_of_bytes (P := Tryz.prog) zU22 zU5 (c := d.c) (HF.out.d.reads.below (HW.out wr HB.out)) 9 zU9
      go_wp2_with (go_at_call 55; refine (refText_any base u0 ib ⟨f.l.toArray⟩ wr HR.out hbw (by have := HL.out; rw [bBuf_len] at this; omega)).mono ?_; rintro e w2 ⟨v2, rfl, hr, hb, hk⟩; have HR2 := Hi hr; have HB2 := Hi (HB.out.trans hb); have HK2 := Hi (HK.out.trans hk); clear hr hb hk)
      go_roundw
      case rel => exact ⟨k + 1, by omega, by go_num, by rw [HNX.out, HE.out]; exact HR2.out, HB2.out, HK2.out⟩
      case measure => simp [intOf]; omega
    · -- a
      have hx' : (Instr.index 9 (.string s3) (.int .i64 (k : Int))).run Tryz.prog wr = .ok (.int .u8 97) wr := hx
      have HE : Hid (ltrB 97 f = bInt f.L.length ++ pAclsB f.L) := by unfold Hid; simp [ltrB]
      rw [HE.out] at hil
      have HL : Hid (ib.length + (bInt f.L.length ++ pAclsB f.L).length + 64 ≤ 140737488355328) := hil
      clear hx hil
      have d3 := yC HS.out 3 (u := .slice a.A a.n a.c) rfl
      have hla := HF.out.a.len
      go_wp2_with (go_at_call 56; refine (refPutAcl_any base u0 ib a.A a.n a.c w0.heap.size f.L wr HR.out (HF.out.a.reads.below (HW.out wr HB.out)) hw0 hbw (HF.out.a.bd (by decide)) (by have := HL.out; rw [zG, bInt_len] at this; omega)).mono ?_; rintro e w2 ⟨v2, rfl, hr, hb, hk⟩; have HR2 := Hi hr; have HB2 := Hi (HB.out.trans hb); have HK2 := Hi (HK.out.trans hk); clear hr hb hk)
      rw [← hla] at HR2
      go_roundw
      case rel => exact ⟨k + 1, by omega, by go_num, by rw [HNX.out, HE.out]; exact HR2.out, HB2.out, HK2.out⟩
      case measure => simp [intOf]; omega
    · -- f
      have hx' : (Instr.index 9 (.string s3) (.int .i64 (k : Int))).run Tryz.prog wr = .ok (.int .u8 102) wr := hx
      have HE : Hid (ltrB 102 f = bInt f.fl) := by unfold Hid; simp [ltrB]
      rw [HE.out] at hil
      have HL : Hid (ib.length + (bInt f.fl).length + 64 ≤ 140737488355328) := hil
      clear hx
      have d4 := yC HS.out 4 (u := .int .i32 f.fl) rfl
      go_wp2_with (go_at_call 41; refine (refPut4 base u0 ib (f.fl % 4294967296) f.fl wr (by omega) (by omega) (by omega) HR.out hbw (by omega)).mono ?_; rintro e w2 ⟨v2, rfl, hr, hb, hk⟩; have HR2 := Hi hr; have HB2 := Hi (HB.out.trans hb); have HK2 := Hi (HK.out.trans hk); clear hr hb hk)
      go_roundw
      case rel => exact ⟨k + 1, by omega, by go_num, by rw [HNX.out, HE.out]; exact HR2.out, HB2.out, HK2.out⟩
      case measure => simp [intOf]; omega
    · -- v
      have hx' : (Instr.index 9 (.string s3) (.int .i64 (k : Int))).run Tryz.prog wr = .ok (.int .u8 118) wr := hx
      have HE : Hid (ltrB 118 f = bInt f.ve) := by unfold Hid; simp [ltrB]
      rw [HE.out] at hil
      have HL : Hid (ib.length + (bInt f.ve).length + 64 ≤ 140737488355328) := hil
      clear hx
      have d5 := yC HS.out 5 (u := .int .i32 f.ve) rfl
      go_wp2_with (go_at_call 41; refine (refPut4 base u0 ib (f.ve % 4294967296) f.ve wr (by omega) (by omega) (by omega) HR.out hbw (by omega)).mono ?_; rintro e w2 ⟨v2, rfl, hr, hb, hk⟩; have HR2 := Hi hr; have HB2 := Hi (HB.out.trans hb); have HK2 := Hi (HK.out.trans hk); clear hr hb hk)
      go_roundw
      case rel => exact ⟨k + 1, by omega, by go_num, by rw [HNX.out, HE.out]; exact HR2.out, HB2.out, HK2.out⟩
      case measure => simp [intOf]; omega
    · -- w
      have hx' : (Instr.index 9 (.string s3) (.int .i64 (k : Int))).run Tryz.prog wr = .ok (.int .u8 119) wr := hx
      have HE : Hid (ltrB 119 f = bBool f.wa) := by unfold Hid; simp [ltrB]
      rw [HE.out] at hil
      have HL : Hid (ib.length + (bBool f.wa).length + 64 ≤ 140737488355328) := hil
      clear hx hil
      have d6 := yC HS.out 6 (u := .bool f.wa) rfl
      have HPB : Hid (∀ W v, Rb W base v ib → base ≤ W.heap.size → Calls Tryz.prog 41 #[v, .int .u64 (if f.wa then 1 else 0), .int .i64 1] W (Putted base ib (bBool f.wa) W)) := fun W v h h1 => by
       have hl := HL.out
       generalize f.wa = b at hl ⊢
       cases b
       · exact refPut_any base v ib 0 1 W h (by omega) (by omega) h1 (by omega)
       · exact refPut_any base v ib 1 1 W h (by omega) (by omega) h1 (by omega)
      generalize f.wa = b at HPB HE HL d6
      cases b
      · go_wp2_with (go_at_call 41; refine (HPB.out wr u0 HR.out hbw).mono ?_; rintro e w2 ⟨v2, rfl, hr, hb, hk⟩; have HR2 := Hi hr; have HB2 := Hi (HB.out.trans hb); have HK2 := Hi (HK.out.trans hk); clear hr hb hk)
        go_roundw
        case rel => exact ⟨k + 1, by omega, by go_num, by rw [HNX.out, HE.out]; exact HR2.out, HB2.out, HK2.out⟩
        case measure => simp [intOf]; omega
      · go_wp2_with (go_at_call 41; refine (HPB.out wr u0 HR.out hbw).mono ?_; rintro e w2 ⟨v2, rfl, hr, hb, hk⟩; have HR2 := Hi hr; have HB2 := Hi (HB.out.trans hb); have HK2 := Hi (HK.out.trans hk); clear hr hb hk)
        go_roundw
        case rel => exact ⟨k + 1, by omega, by go_num, by rw [HNX.out, HE.out]; exact HR2.out, HB2.out, HK2.out⟩
        case measure => simp [intOf]; omega
    · -- l
      have hx' : (Instr.index 9 (.string s3) (.int .i64 (k : Int))).run Tryz.prog wr = .ok (.int .u8 108) wr := hx
      have HE : Hid (ltrB 108 f = bLong f.tl) := by unfold Hid; simp [ltrB]
      rw [HE.out] at hil
      have HL : Hid (ib.length + (bLong f.tl).length + 64 ≤ 140737488355328) := hil
      clear hx
      have d9 := yC HS.out 9 (u := .int .i64 f.tl) rfl
      go_wp2_with (go_at_call 41; refine (refPut8 base u0 ib f.tl wr HR.out hbw (by omega)).mono ?_; rintro e w2 ⟨v2, rfl, hr, hb, hk⟩; have HR2 := Hi hr; have HB2 := Hi (HB.out.trans hb); have HK2 := Hi (HK.out.trans hk); clear hr hb hk)
      go_roundw
      case rel => exact ⟨k + 1, by omega, by go_num, by rw [HNX.out, HE.out]; exact HR2.out, HB2.out, HK2.out⟩
      case measure => simp [intOf]; omega
    · -- t
      have hx' : (Instr.index 9 (.string s3) (.int .i64 (k : Int))).run Tryz.prog wr = .ok (.int .u8 116) wr := hx
      have HE : Hid (ltrB 116 f = bInt f.to) := by unfold Hid; simp [ltrB]
      rw [HE.out] at hil
      have HL : Hid (ib.length + (bInt f.to).length + 64 ≤ 140737488355328) := hil
      clear hx
      have d16 := yC HS.out 16 (u := .int .i32 f.to) rfl
      go_wp2_with (go_at_call 41; refine (refPut4 base u0 ib (f.to % 4294967296) f.to wr (by omega) (by omega) (by omega) HR.out hbw (by omega)).mono ?_; rintro e w2 ⟨v2, rfl, hr, hb, hk⟩; have HR2 := Hi hr; have HB2 := Hi (HB.out.trans hb); have HK2 := Hi (HK.out.trans hk); clear hr hb hk)
      go_roundw
      case rel => exact ⟨k + 1, by omega, by go_num, by rw [HNX.out, HE.out]; exact HR2.out, HB2.out, HK2.out⟩
      case measure => simp [intOf]; omega
    · -- i
      have hx' : (Instr.index 9 (.string s3) (.int .i64 (k : Int))).run Tryz.prog wr = .ok (.int .u8 105) wr := hx
      have HE : Hid (ltrB 105 f = bInt f.I.length ++ pIdsB f.I) := by unfold Hid; simp [ltrB]
      rw [HE.out] at hil
      have HL : Hid (ib.length + (bInt f.I.length ++ pIdsB f.I).length + 64 ≤ 140737488355328) := hil
      clear hx hil
      have d17 := yC HS.out 17 (u := .slice i.A i.n i.c) rfl
      have hli := HF.out.i.len
      go_wp2_with (go_at_call 57; refine (refPutIds_any base u0 ib i.A i.n i.c w0.heap.size f.I wr HR.out (HF.out.i.reads.below (HW.out wr HB.out)) hw0 hbw (HF.out.i.bd (by decide)) (by have := HL.out; rw [zG, bInt_len] at this; omega)).mono ?_; rintro e w2 ⟨v2, rfl, hr, hb, hk⟩; have HR2 := Hi hr; have HB2 := Hi (HB.out.trans hb); have HK2 := Hi (HK.out.trans hk); clear hr hb hk)
      rw [← hli] at HR2
      go_roundw
      case rel => exact ⟨k + 1, by omega, by go_num, by rw [HNX.out, HE.out]; exact HR2.out, HB2.out, HK2.out⟩
      case measure => simp [intOf]; omega
    · -- c
      have hx' : (Instr.index 9 (.string s3) (.int .i64 (k : Int))).run Tryz.prog wr = .ok (.int .u8 99) wr := hx
      have HE : Hid (ltrB 99 f = bLong f.ct ++ bLong f.by_) := by unfold Hid; simp [ltrB]
      rw [HE.out] at hil
      have HL : Hid (ib.length + (bLong f.ct ++ bLong f.by_).length + 64 ≤ 140737488355328) := hil
      have HM0 : Rb wr.drew base u0 ib := HR.out.drew
      clear hx hil
      have hl := HL.out
      rw [zG, bLong_len, bLong_len] at hl
      go_wp2_with (with_reducible refine wpAt 71 ?_; fail)
      have HC0 : Below base wr wr.drew ∧ Keeps wr wr.drew := ⟨zT.drew, Keeps.drew _⟩
      refine wp_region_duo (w0 := wr) (fun u W => Below base u W ∧ Keeps u W) [4, 8, 9] 9 (fun j v W => match j with | 0 => Rb W base u0 (ib) | 1 => Rb W base v (ib ++ bLong f.ct) | _ => Rb W base v (ib ++ bLong f.ct ++ bLong f.by_)) (.inl (u0) ::
       .inl (.pointer (some ⟨w.heap.size, 7, none⟩)) ::
       .inl (.int .i64 f.ct) ::
       .inl (.int .u64 (IntKind.u64.wrap f.ct)) ::
       .inr Tt ::
       .inl (.pointer (some ⟨w.heap.size, 8, none⟩)) ::
       .inl (.int .i64 f.by_) ::
       .inl (.int .u64 (IntKind.u64.wrap f.by_)) ::
       .inr Tt ::
       .inr Tt :: []) u0 HM0 rfl HC0 (fun h h' => ⟨h.1.trans h'.1, h.2.trans h'.2⟩) (fun u => ⟨Below.refl _ _, Keeps.refl _⟩) rfl (by kernel_rfl) (by kernel_rfl) (by kernel_rfl) (by kernel_rfl) (by kernel_rfl) (by simp [AllTt]) ⟨fun ac W hb o q K hK => op_u (u := u0) rfl (r_move _ rfl (yA ((o 0 (by kernel_rfl)).trans rfl))) (hK _ rfl),
       fun ac W hb o q K hK => op_u (u := .pointer (some ⟨w.heap.size, 7, none⟩)) rfl (r_field 29 _ 7 rfl (yA ((o 3 (by kernel_rfl)).trans rfl)) zU29 rfl (n := 0) isz_2 rfl) (hK _ rfl),
       fun ac W hb o q K hK => op_u (u := .int .i64 f.ct) rfl (r_load 2 _ rfl (yA (dD q 1 72)) (yC (hb.2 _ _ _ (by decide) HS.out) 7 rfl) zU2 rfl) (hK _ rfl),
       fun ac W hb o q K hK => op_u (u := .int .u64 (IntKind.u64.wrap f.ct)) rfl (r_conv 2 69 _ rfl (yA (dD q 2 73)) (conv_u64 f.ct W)) (hK _ rfl),
       fun ac W hb hold hdep v hM hv K hK => step_call (want_free rfl) 41 _ _ rfl (#[u0, .int .u64 (IntKind.u64.wrap f.ct), .int .i64 8]) (by simp [(yA (dD hdep 0 71)), (yA (dD hdep 3 74)), (show ac.eval (.const (.int .i64 8)) = .int .i64 8 from rfl)]) Tryz.func41 (by kernel_rfl) (by kernel_rfl) (refPut8 base u0 _ f.ct W hM (Nat.le_trans hbw hb.1.size) (by omega)) (fun e w' ⟨v', he, hr, hbb, hk⟩ => ⟨v', he, hK v' w' hr trivial ⟨hbb, hk⟩⟩),
       fun ac W hb o q K hK => op_u (u := .pointer (some ⟨w.heap.size, 8, none⟩)) rfl (r_field 29 _ 8 rfl (yA ((o 3 (by kernel_rfl)).trans rfl)) zU29 rfl (n := 0) isz_2 rfl) (hK _ rfl),
       fun ac W hb o q K hK => op_u (u := .int .i64 f.by_) rfl (r_load 2 _ rfl (yA (dD q 5 76)) (yC (hb.2 _ _ _ (by decide) HS.out) 8 rfl) zU2 rfl) (hK _ rfl),
       fun ac W hb o q K hK => op_u (u := .int .u64 (IntKind.u64.wrap f.by_)) rfl (r_conv 2 69 _ rfl (yA (dD q 6 77)) (conv_u64 f.by_ W)) (hK _ rfl),
       fun ac W hb hold hdep v hM hv K hK => step_call (want_free rfl) 41 _ _ rfl (#[v, .int .u64 (IntKind.u64.wrap f.by_), .int .i64 8]) (by simp [(yA (hv 0 rfl 75 rfl)), (yA (dD hdep 7 78)), (show ac.eval (.const (.int .i64 8)) = .int .i64 8 from rfl)]) Tryz.func41 (by kernel_rfl) (by kernel_rfl) (refPut8 base v _ f.by_ W hM (Nat.le_trans hbw hb.1.size) (by rw [zG, bLong_len]; omega)) (fun e w' ⟨v', he, hr, hbb, hk⟩ => ⟨v', he, hK v' w' hr trivial ⟨hbb, hk⟩⟩),
       fun ac W hb hold hdep v hM hv K hK => op_u (u := v) rfl (r_assign _ rfl (yA (hv 1 rfl 79 rfl))) (hK v W hM trivial ⟨Below.refl _ _, Keeps.refl _⟩), trivial⟩ ?_
      intro w3 v2 hC hM
      simp only [Fin, Act.put, List.set, zD, zA, zB]
      rintro t1 - t2 -
      have HR2 : Hid (Rb w3 base v2 (ib ++ (bLong f.ct ++ bLong f.by_))) := by unfold Hid; rw [← zL]; exact hM
      have HB2 := Hi (HB.out.trans hC.1)
      have HK2 := Hi (HK.out.trans hC.2)
      clear hC hM hl
      go_wp2
      go_roundw
      case rel => exact ⟨k + 1, by omega, by go_num, by rw [HNX.out, HE.out]; exact HR2.out, HB2.out, HK2.out⟩
      case measure => simp [intOf]; omega
    · -- z
      have hx' : (Instr.index 9 (.string s3) (.int .i64 (k : Int))).run Tryz.prog wr = .ok (.int .u8 122) wr := hx
      have HE : Hid (ltrB 122 f = bLong f.zx) := by unfold Hid; simp [ltrB]
      rw [HE.out] at hil
      have HL : Hid (ib.length + (bLong f.zx).length + 64 ≤ 140737488355328) := hil
      clear hx
      have d10 := yC HS.out 10 (u := .int .i64 f.zx) rfl
      go_wp2_with (go_at_call 41; refine (refPut8 base u0 ib f.zx wr HR.out hbw (by omega)).mono ?_; rintro e w2 ⟨v2, rfl, hr, hb, hk⟩; have HR2 := Hi hr; have HB2 := Hi (HB.out.trans hb); have HK2 := Hi (HK.out.trans hk); clear hr hb hk)
      go_roundw
      case rel => exact ⟨k + 1, by omega, by go_num, by rw [HNX.out, HE.out]; exact HR2.out, HB2.out, HK2.out⟩
      case measure => simp [intOf]; omega
    · -- k
      have hx' : (Instr.index 9 (.string s3) (.int .i64 (k : Int))).run Tryz.prog wr = .ok (.int .u8 107) wr := hx
      have HE : Hid (ltrB 107 f = pListsB f) := by unfold Hid; simp [ltrB]
      rw [HE.out] at hil
      have HL : Hid (ib.length + (pListsB f).length + 64 ≤ 140737488355328) := hil
      clear hx hil
      have HLL : Hid (∀ j (hj : j < 5), SlAt w0 lo 9 1 16 ([k0, k1, k2, k3, k4][j]'hj) (f.lists[j]'hj).length (strCells (f.lists[j]'hj))) := fun j hj => by
       rcases (by omega : j = 0 ∨ j = 1 ∨ j = 2 ∨ j = 3 ∨ j = 4) with rfl | rfl | rfl | rfl | rfl
       · exact HF.out.k0
       · exact HF.out.k1
       · exact HF.out.k2
       · exact HF.out.k3
       · exact HF.out.k4
      have HPL : Hid (pListsB f = listsB f.lists) := rfl
      have H5 : Hid (f.lists.length = 5) := rfl
      rw [HPL.out] at HL
      go_wp2
      obtain ⟨wp, rfl⟩ : ∃ v, v = wr := ⟨_, rfl⟩
      obtain ⟨Ls, hLs⟩ : ∃ L, L = f.lists := ⟨_, rfl⟩
      rw [← hLs] at HL
      have HLS := Hi hLs
      go_loopw [0, 8] (fun u v8 wj => ∃ j : Nat, j ≤ 5 ∧ v8 = .int .i64 (j : Int) ∧ Rb wj base u (ib ++ listsB (Ls.take j)) ∧ Below base wp wj ∧ Keeps wp wj) (fun _ v8 _ => 5 - (intOf v8).toNat)
      case atStart => exact ⟨0, by omega, rfl, by simpa [listsB] using HR.out, Below.refl _ _, Keeps.refl _⟩
      case round =>
       obtain ⟨wj, rfl⟩ : ∃ v, v = wr := ⟨_, rfl⟩
       obtain ⟨j, hj, rfl, hRj, hBj, hKj⟩ := hrel
       have HBj := Hi hBj
       have HKj := Hi hKj
       by_cases hjl : j < 5
       · have hj5 : j < Ls.length := by rw [HLS.out, H5.out]; exact hjl
         have hsk := HLL.out j hjl
         obtain ⟨kj, hkj⟩ : ∃ k, k = ([k0, k1, k2, k3, k4][j]'hjl) := ⟨_, rfl⟩
         rw [← hkj] at hsk
         have hLj : f.lists[j]'hjl = Ls[j] := by have e := HLS.out; subst e; rfl
         rw [hLj] at hsk
         have hsn := lists_snoc Ls j hj5
         have hle := lists_le Ls j hj5
         obtain ⟨T, hT⟩ : ∃ T, T = Ls[j] := ⟨_, rfl⟩
         rw [← hT] at hsk hsn hle
         have HCK : Hid (∀ W, Keeps w1 W → W.cell? ⟨w.heap.size, 11 + j, none⟩ = some (.slice kj.A kj.n kj.c)) := fun W hW => yC (hW _ _ _ (by decide) HS1.out) (11 + j) (by rw [rowL_eq, rowL_get rfl hjl, ← hkj]; rfl)
         have hTn : T.length = kj.n := hsk.len
         have hbd := hsk.bd (by decide)
         have HSK := Hi hsk
         obtain ⟨jb, hjb⟩ : ∃ b, b = ib ++ listsB (Ls.take j) := ⟨_, rfl⟩
         have hjl2 : jb.length + 4 + (bTexts T).length + 64 ≤ 140737488355328 := by have := HL.out; rw [hjb, zG]; omega
         have HNJ : Hid (ib ++ listsB (Ls.take (j + 1)) = jb ++ (bInt kj.n ++ bTexts T)) := by unfold Hid; rw [hsn, ← zL, ← hjb, hTn]
         rw [← hjb] at hRj
         have HRj := Hi hRj
         have hbj : base ≤ wj.heap.size := Nat.le_trans hbw hBj.size
         have HC1 := Hi (HCK.out wj (HK.out.trans HKj.out))
         have HTN := Hi hTn
         clear hkj hsk hLj hsn hle hT hRj hBj hKj hjb hTn
         go_wp2_with (first
          | (with_reducible refine wpAt 104 ?_; refine wpList_load1 rfl 24 (.tmp 103) rfl ⟨w.heap.size, 11 + j, none⟩ rfl HC1.out zU24 rfl ?_)
          | (go_at_call 41
             refine (refPut4 base u0 jb (kj.n : Int) kj.n wj (by omega) (by omega) rfl HRj.out hbj (by omega)).mono ?_
             rintro e wk ⟨vk, rfl, hr, hb, hk⟩
             have HRk := Hi hr
             have HBk := Hi hb
             have HKk := Hi hk
             clear hr hb hk))
         go_loopw [0, 9] (fun u v9 wm => ∃ m : Nat, m ≤ kj.n ∧ v9 = .int .i64 (m : Int) ∧ Rb wm base u (jb ++ bInt kj.n ++ bTexts (T.take m)) ∧ Below base wj wm ∧ Keeps wj wm) (fun _ v9 _ => kj.n - (intOf v9).toNat)
         case atStart => exact ⟨0, by omega, rfl, by simpa [bTexts] using HRk.out, HBk.out, HKk.out⟩
         case round =>
          obtain ⟨wm, rfl⟩ : ∃ v, v = wr := ⟨_, rfl⟩
          clear HRk HBk HKk
          obtain ⟨m, hm, rfl, hRm, hBm, hKm⟩ := hrel
          have HBm := Hi (HBj.out.trans hBm)
          have HKm := Hi (HKj.out.trans hKm)
          have HBjm := Hi hBm
          have HKjm := Hi hKm
          have HCm := Hi (HCK.out wm (HK.out.trans HKm.out))
          have hbm : base ≤ wm.heap.size := Nat.le_trans hbj hBm.size
          by_cases hml : m < kj.n
          · have hmT : m < T.length := by rw [HTN.out]; exact hml
            obtain ⟨ad, hA, hsc⟩ := str_cellO (HSK.out.reads.below (HW.out wm (HB.out.trans HBm.out))) HTN.out hmT
            have hsn := texts_snoc T m hmT
            have hle := texts_le T m hmT
            obtain ⟨x, hx⟩ : ∃ x, x = T[m] := ⟨_, rfl⟩
            rw [← hx] at hsc hsn hle
            have HSC := Hi hsc
            have HNM : Hid (jb ++ bInt kj.n ++ bTexts (T.take (m + 1)) = (jb ++ bInt kj.n ++ bTexts (T.take m)) ++ bBuf x.data.toList) := by unfold Hid; rw [hsn, ← zL]
            have hml2 : (jb ++ bInt kj.n ++ bTexts (T.take m)).length + x.size + 8 ≤ 140737488355328 := by rw [zG, zG, bInt_len]; omega
            obtain ⟨mb, hmb⟩ : ∃ b, b = jb ++ bInt kj.n ++ bTexts (T.take m) := ⟨_, rfl⟩
            rw [← hmb] at HNM hml2 hRm
            have HRm := Hi hRm
            obtain ⟨kA, kn, kc⟩ := kj
            dsimp only at hA hml hm HCm HC1 hbd
            subst hA
            clear hsc hsn hle hx hmb hRm hBm hKm
            go_wp2_with (first
             | (with_reducible refine wpAt 112 ?_; refine wpList_load1 rfl 24 (.tmp 111) rfl ⟨w.heap.size, 11 + j, none⟩ rfl HCm.out zU24 rfl ?_)
             | (with_reducible refine wpAt 121 ?_; refine wpList_load1 rfl 24 (.tmp 120) rfl ⟨w.heap.size, 11 + j, none⟩ rfl HCm.out zU24 rfl ?_)
             | (with_reducible refine wpAt 124 ?_; refine wpList_load1 rfl 9 (.tmp 123) rfl (ad.add m) rfl HSC.out zU9 rfl ?_)
             | (go_at_call 55
                refine (refText_any base u0 mb x wm HRm.out hbm hml2).mono ?_
                rintro e wk ⟨vk, rfl, hr, hb, hk⟩
                have HRk := Hi hr
                have HBk := Hi (HBjm.out.trans hb)
                have HKk := Hi (HKjm.out.trans hk)
                clear hr hb hk))
            go_roundw
            case rel => exact ⟨m + 1, by omega, by go_num, by rw [HNM.out]; exact HRk.out, HBk.out, HKk.out⟩
            case measure => simp [intOf]; omega
          · have hmk : m = kj.n := by omega
            rw [hmk, ← HTN.out, List.take_length, HTN.out, zL, ← HNJ.out] at hRm
            have HRm := Hi hRm
            clear hRm hBm hKm
            go_wp2_with (with_reducible refine wpAt 112 ?_; refine wpList_load1 rfl 24 (.tmp 111) rfl ⟨w.heap.size, 11 + j, none⟩ rfl HCm.out zU24 rfl ?_)
            go_roundw
            case rel => exact ⟨j + 1, by omega, by go_num, HRm.out, HBm.out, HKm.out⟩
            case measure => simp [intOf]; omega
       · obtain rfl : j = 5 := by omega
         rw [show (5 : Nat) = Ls.length by rw [HLS.out]; rfl, List.take_length, HLS.out, ← HPL.out] at hRj
         have HRj := Hi hRj
         have HB2 := Hi (HB.out.trans hBj)
         have HK2 := Hi (HK.out.trans hKj)
         clear hRj hBj hKj
         rw [show ((5 : Nat) : Int) = 5 from rfl]
         go_wp2
         go_roundw
         case rel => exact ⟨k + 1, by omega, by go_num, by rw [HNX.out, HE.out]; exact HRj.out, HB2.out, HK2.out⟩
         case measure => simp [intOf]; omega

theorem refHeader0 (base : Nat) (v : Value) (l : List UInt8) (t : Int) (w : World) (h : Rb w base v l) (hbase : base ≤ w.heap.size) (hsz : l.length + 24 ≤ 140737488355328) :
 Calls Tryz.prog 58 #[v, .int .i32 t, .int .u64 0] w (Putted base l (hdrB t false) w) := refHeader_any base v l t false w h hbase hsz
theorem refHeader1 (base : Nat) (v : Value) (l : List UInt8) (t : Int) (w : World) (h : Rb w base v l) (hbase : base ≤ w.heap.size) (hsz : l.length + 24 ≤ 140737488355328) :
 Calls Tryz.prog 58 #[v, .int .i32 t, .int .u64 1] w (Putted base l (hdrB t true) w) := refHeader_any base v l t true w h hbase hsz
theorem subsB_append : ∀ (A B : List OpC), subsB (A ++ B) = subsB A ++ subsB B
 | [], B => by simp [subsB]
 | x :: A, B => by simp only [List.cons_append, subsB, subsB_append A B, zL]
theorem subs_snocB (S : List OpC) (n : Nat) (h : n < S.length) : subsB (S.take (n + 1)) = subsB (S.take n) ++ (hdrB S[n].f.t false ++ S[n].putB) := by
 rw [List.take_succ_eq_append_getElem h, subsB_append]
 simp [subsB]
theorem subs_leB (S : List OpC) (n : Nat) (h : n < S.length) : (subsB (S.take n)).length + 9 + S[n].putB.length ≤ (subsB S).length := by
 have e : subsB S = subsB (S.take (n + 1)) ++ subsB (S.drop (n + 1)) := by rw [← subsB_append, List.take_append_drop]
 rw [e, zG, subs_snocB S n h, zG, zG, hdrB_len]
 omega
theorem refOpPut_any {w0 : World} {lo : Option Nat} {x : OpC} {xs : List Value} (h : At w0 lo x xs) : ∀ (w : World) (base : Nat) (v : Value) (l : List UInt8), w0.heap.size ≤ base → Below w0.heap.size w0 w → Rb w base v l → base ≤ w.heap.size → l.length + x.putB.length + 64 ≤ 140737488355328 →
 Calls Tryz.prog 26 #[v, .agg xs.toArray] w (Putted base l x.putB w) := by
 induction h with
 | mk f d a k0 k1 k2 k3 k4 i s Q ok hd ha hk0 hk1 hk2 hk3 hk4 hi hs hQ ih =>
   intro w base v l hw0 hb0 hv hbase hsz
   rw [OpC.putB] at hsz ⊢
   by_cases ht : f.t = 14 ∨ f.t = 22
   rotate_left
   · rw [if_neg ht] at hsz ⊢
     exact refPut_plain f d a k0 k1 k2 k3 k4 i s base v l ht ⟨hd, ha, hk0, hk1, hk2, hk3, hk4, hi⟩ hw0 hb0 hv hbase hsz
   rw [if_pos ht] at hsz ⊢
   obtain ⟨cs, hcs⟩ : ∃ cs : Array Value, cs = (f.row d a k0 k1 k2 k3 k4 i s).toArray := ⟨_, rfl⟩
   rw [← hcs]
   obtain ⟨w1, hw1⟩ := xa w cs 29
   have HS1 := Hi (newK hw1)
   have hb1 := newB hw1
   have HB1 : Hid (Below base w w1) := hb1.mono hbase
   have HR1 : Hid (Rb w1 base v l) := hv.later hb1
   have hkp1 : Keeps w w1 := by rw [← hw1]; exact (Keeps.refl w).alloc _
   have HK01 := Hi hkp1
   have HW : Hid (∀ W, Below base w1 W → Below w0.heap.size w0 W) := fun W hW => hb0.trans (((hb1.mono hbase).trans hW).mono hw0)
   have hz1 : base ≤ w1.heap.size := Nat.le_trans hbase hb1.size
   have HC18 : Hid (cs[18]? = some (.slice s.A s.n s.c)) := by unfold Hid; rw [hcs]; rfl
   have c0 := yC HS1.out 0 (by rw [hcs]; rfl : cs[0]? = some (.int .i32 f.t))
   have hkk : ∀ t : Int, t = 14 ∨ t = 22 → (kindN t == 5) = false ∧ fieldsN t = [115] := by rintro t (rfl | rfl) <;> decide +kernel
   obtain ⟨h5, hF⟩ := hkk f.t ht
   obtain ⟨kn, hkn⟩ : ∃ k, k = kindN f.t := ⟨_, rfl⟩
   rw [← hkn] at h5
   have HK : Hid (∀ W, Calls Tryz.prog 12 #[.int .i32 f.t] W fun e w' => e = .returned (.int .i64 kn) ∧ w' = W) := fun W => by rw [hkn]; exact refKind_any f.t W
   obtain ⟨s3, hs3⟩ : ∃ s3 : ByteArray, s3 = ⟨#[115]⟩ := ⟨_, rfl⟩
   have HFI : Hid (∀ W, Calls Tryz.prog 54 #[.int .i32 f.t] W fun e w' => e = .returned (.string s3) ∧ w' = W) := fun W => by have := fields_any f.t W; rw [hF] at this; rw [hs3]; exact this
   have hsz3 : s3.size = 1 := by rw [hs3]; rfl
   have HIX : Hid (∀ W, (Instr.index 9 (.string s3) (.int .i64 ((0 : Nat) : Int))).run Tryz.prog W = .ok (.int .u8 115) W) := fun W => by
    rw [run_index_string W _ s3 .i64 (0 : Nat) zU9, dif_pos ⟨by omega, by omega⟩]
    subst hs3
    rfl
   have hlen : s.n ≤ 4611686018427387904 := hs.bd (by decide)
   have HSR := Hi hs.reads
   have HQA : Hid (∀ q ∈ Q, At w0 lo q.1 q.2) := hQ
   have HSL : Hid (Q.length = s.n) := hs.len
   have HIH := Hi ih
   obtain ⟨S, hS⟩ : ∃ S, S = Q.map Prod.fst := ⟨_, rfl⟩
   have HSQ := Hi hS
   rw [← hS] at hsz ⊢
   have HSZ : Hid (l.length + (subsB S).length + 73 ≤ 140737488355328) := by rw [zG, hdrB_len] at hsz; unfold Hid; omega
   clear hcs ih hs hd ha hk0 hk1 hk2 hk3 hk4 hi hQ ok hb0 hS hsz hkn hF hkk ht hv hb1 hkp1 hs3
   obtain ⟨A, N, c⟩ := s
   dsimp only at HSR HSL hlen HC18
   obtain ⟨tt, htt⟩ : ∃ t, t = f.t := ⟨_, rfl⟩
   rw [← htt] at HK HFI c0
   clear htt
   go_enter Tryz.func26, Tryz.ntmps26
   go_wp2_with (first
    | (go_at_call 54
       refine (HFI.out _).mono ?_
       rintro e w2 ⟨rfl, he⟩
       obtain rfl := he.symm)
    | (go_at_call 12
       refine (HK.out _).mono ?_
       rintro e w2 ⟨rfl, he⟩
       obtain rfl := he.symm))
   clear h5 HK HFI c0
   go_loopw [0, 6] (fun u v6 wr => ∃ k : Nat, k ≤ 1 ∧ v6 = .int .i64 (k : Int) ∧ Rb wr base u (if k = 0 then l else l ++ (subsB S ++ hdrB (-1) true)) ∧ Below base w1 wr ∧ Keeps w1 wr) (fun _ v6 _ => 1 - (intOf v6).toNat)
   case atStart => exact ⟨0, by omega, rfl, HR1.out, Below.refl _ _, Keeps.refl _⟩
   case round =>
    obtain ⟨k, hk, rfl, hR, hBe, hKe⟩ := hrel
    have HB := Hi hBe
    have HK := Hi hKe
    have hbw : base ≤ wr.heap.size := Nat.le_trans hz1 hBe.size
    by_cases hk1 : k = 0
    rotate_left
    · obtain rfl : k = 1 := by omega
      rw [if_neg hk1] at hR
      have HRR := Hi hR
      clear hR hBe hKe
      rw [show ((1 : Nat) : Int) = 1 from rfl]
      go_wp2
      go_ret
      exact ⟨_, rfl, HRR.out, HB1.out.trans HB.out, HK01.out.trans HK.out⟩
    rw [if_pos hk1] at hR
    have hlt : k < 1 := by omega
    have hx : (Instr.index 9 (.string s3) (.int .i64 (k : Int))).run Tryz.prog wr = .ok (.int .u8 115) wr := by subst hk1; exact HIX.out wr
    have HR := Hi hR
    have HNr : Hid (Blk wr w.heap.size 29 cs) := hKe _ _ _ (by decide) HS1.out
    clear hR hBe hKe hk1
    obtain ⟨wp, rfl⟩ : ∃ v, v = wr := ⟨_, rfl⟩
    go_wp2
    go_loopw [0, 10] (fun u v10 wj => ∃ n : Nat, n ≤ N ∧ v10 = .int .i64 (n : Int) ∧ Rb wj base u (l ++ subsB (S.take n)) ∧ Below base wp wj ∧ Keeps wp wj) (fun _ v10 _ => N - (intOf v10).toNat)
    case atStart => exact ⟨0, by omega, rfl, by simpa [subsB] using HR.out, Below.refl _ _, Keeps.refl _⟩
    case round =>
     obtain ⟨wj, rfl⟩ : ∃ v, v = wr := ⟨_, rfl⟩
     obtain ⟨n, hn, rfl, hRj, hBj, hKj⟩ := hrel
     have HBj := Hi (HB.out.trans hBj)
     have HKj := Hi (HK.out.trans hKj)
     have HNj : Hid (Blk wj w.heap.size 29 cs) := hKj _ _ _ (by decide) HNr.out
     have HBp := Hi hBj
     have HKp := Hi hKj
     have c18 := yC HNj.out 18 HC18.out
     have hbj : base ≤ wj.heap.size := Nat.le_trans hbw hBj.size
     by_cases hnN : n < N
     · have hnQ : n < Q.length := by rw [HSL.out]; exact hnN
       have hnS : n < S.length := by rw [HSQ.out, List.length_map]; exact hnQ
       have hsn := subs_snocB S n hnS
       have hle := subs_leB S n hnS
       have hSn : S[n] = (Q[n]).1 := by simp only [HSQ.out, List.getElem_map]
       rw [hSn] at hsn hle
       obtain ⟨ad, hA, hrow⟩ := rowAt (HSR.out.below (HW.out wj HBj.out)) HQA.out hnQ HSL.out
       subst hA
       have hrows : ∀ W, Below base wj W → RowAt W ad n (Q[n]).2 := fun W hW => by
        obtain ⟨ad', hA', hrow'⟩ := rowAt (HSR.out.below (HW.out W (HBj.out.trans hW))) HQA.out hnQ HSL.out
        injection hA' with e
        subst e
        exact hrow'
       have hih := HIH.out (Q[n]) (List.getElem_mem _)
       have hx0 := (HQA.out (Q[n]) (List.getElem_mem _)).c0
       obtain ⟨⟨x, xc⟩, hx⟩ : ∃ x, x = Q[n] := ⟨_, rfl⟩
       rw [← hx] at hrows hih hx0 hsn hle
       dsimp only at hrows hih hx0 hsn hle
       have HROWS := Hi hrows
       obtain ⟨xt, hxt⟩ : ∃ t, t = x.f.t := ⟨_, rfl⟩
       have HX0 : Hid (∀ W, Below base wj W → W.cell? (ad.add (n * 19)) = some (.int .i32 xt)) := fun W hW => (HROWS.out W hW).cells 0 _ (by rw [hxt]; exact hx0)
       obtain ⟨jb, hjb⟩ : ∃ b, b = l ++ subsB (S.take n) := ⟨_, rfl⟩
       obtain ⟨pb, hpb⟩ : ∃ b, b = x.putB := ⟨_, rfl⟩
       rw [← hxt, ← hpb] at hsn
       rw [← hpb] at hle hih
       have hjl : jb.length + 9 + pb.length + 64 ≤ 140737488355328 := by have := HSZ.out; rw [hjb, zG]; omega
       have HNJ : Hid (l ++ subsB (S.take (n + 1)) = jb ++ hdrB xt false ++ pb) := by unfold Hid; rw [hsn, ← zL, ← hjb, ← zL]
       rw [← hjb] at hRj
       have HM0 : Rb wj.drew base u0 jb := hRj.drew
       have HIK : Hid (∀ W v, Rb W base v (jb ++ hdrB xt false) → Below base wj W → Calls Tryz.prog 26 #[v, .agg xc.toArray] W (Putted base (jb ++ hdrB xt false) pb W)) := fun W v hv hW =>
        hih W base v _ hw0 (HW.out W (HBj.out.trans hW)) hv (Nat.le_trans hbj hW.size) (by rw [zG, hdrB_len]; omega)
       clear hx hrow hrows hnQ hnS hsn hle hSn hih hx0 hxt hjb hpb hRj hBj hKj
       go_wp2_with (with_reducible refine wpAt 149 ?_; fail)
       have HC0 : Below base wj wj.drew ∧ Keeps wj wj.drew := ⟨zT.drew, Keeps.drew _⟩
       refine wp_region_duo (w0 := wj) (fun u W => Below base u W ∧ Keeps u W) [7, 13, 14] 14 (fun j v W => match j with | 0 => Rb W base u0 (jb) | 1 => Rb W base v (jb ++ hdrB xt false) | _ => Rb W base v (jb ++ hdrB xt false ++ pb)) (.inl (u0) ::
        .inl (.pointer (some ⟨w.heap.size, 18, none⟩)) ::
        .inl (.slice (some ad) N c) ::
        .inl (.int .i64 (n : Int)) ::
        .inl (.pointer (some (ad.add (n * 19)))) ::
        .inl (.pointer (some (ad.add (n * 19)))) ::
        .inl (.int .i32 xt) ::
        .inr Tt ::
        .inl (.pointer (some ⟨w.heap.size, 18, none⟩)) ::
        .inl (.slice (some ad) N c) ::
        .inl (.int .i64 (n : Int)) ::
        .inl (.pointer (some (ad.add (n * 19)))) ::
        .inl (.agg xc.toArray) ::
        .inr Tt ::
        .inr Tt :: []) u0 HM0 rfl HC0 (fun h h' => ⟨h.1.trans h'.1, h.2.trans h'.2⟩) (fun u => ⟨Below.refl _ _, Keeps.refl _⟩) rfl (by kernel_rfl) (by kernel_rfl) (by kernel_rfl) (by kernel_rfl) (by kernel_rfl) (by simp [AllTt]) ⟨fun ac W hb o q K hK => op_u (u := u0) rfl (r_move _ rfl (yA ((o 0 (by kernel_rfl)).trans rfl))) (hK _ rfl),
        fun ac W hb o q K hK => op_u (u := .pointer (some ⟨w.heap.size, 18, none⟩)) rfl (r_field 29 _ 14 rfl (yA ((o 3 (by kernel_rfl)).trans rfl)) zU29 rfl (n := 0) isz_27 rfl) (hK _ rfl),
        fun ac W hb o q K hK => op_u (u := .slice (some ad) N c) rfl (r_load 27 _ rfl (yA (dD q 1 150)) (yC (hb.2 _ _ _ (by decide) HNj.out) 18 HC18.out) zU27 rfl) (hK _ rfl),
        fun ac W hb o q K hK => op_u (u := .int .i64 (n : Int)) rfl (r_move _ rfl (yA ((o 10 (by kernel_rfl)).trans rfl))) (hK _ rfl),
        fun ac W hb o q K hK => op_u (u := .pointer (some (ad.add (n * 19)))) rfl (r_index 27 _ _ rfl (yA (dD q 2 151)) (yA (dD q 3 152)) hnN zU27 isz_29 rfl) (hK _ rfl),
        fun ac W hb o q K hK => op_u (u := .pointer (some (ad.add (n * 19)))) rfl (r_field 29 _ 0 rfl (yA (dD q 4 153)) zU29 rfl (n := 0) isz_21 rfl) (hK _ rfl),
        fun ac W hb o q K hK => op_u (u := .int .i32 xt) rfl (r_load 21 _ rfl (yA (dD q 5 154)) (HX0.out W hb.1) zU21 rfl) (hK _ rfl),
        fun ac W hb hold hdep v hM hv K hK => step_call (want_free rfl) 58 _ _ rfl (#[u0, .int .i32 xt, .int .u64 0]) (by simp [(yA (dD hdep 0 149)), (yA (dD hdep 6 155)), (show ac.eval (.const (.int .u64 0)) = .int .u64 0 from rfl)]) Tryz.func58 (by kernel_rfl) (by kernel_rfl) (refHeader0 base u0 jb xt W hM (Nat.le_trans hbj hb.1.size) (by omega)) (fun e w' ⟨v', he, hr, hbb, hk⟩ => ⟨v', he, hK v' w' hr trivial ⟨hbb, hk⟩⟩),
        fun ac W hb o q K hK => op_u (u := .pointer (some ⟨w.heap.size, 18, none⟩)) rfl (r_field 29 _ 14 rfl (yA ((o 3 (by kernel_rfl)).trans rfl)) zU29 rfl (n := 0) isz_27 rfl) (hK _ rfl),
        fun ac W hb o q K hK => op_u (u := .slice (some ad) N c) rfl (r_load 27 _ rfl (yA (dD q 8 157)) (yC (hb.2 _ _ _ (by decide) HNj.out) 18 HC18.out) zU27 rfl) (hK _ rfl),
        fun ac W hb o q K hK => op_u (u := .int .i64 (n : Int)) rfl (r_move _ rfl (yA ((o 10 (by kernel_rfl)).trans rfl))) (hK _ rfl),
        fun ac W hb o q K hK => op_u (u := .pointer (some (ad.add (n * 19)))) rfl (r_index 27 _ _ rfl (yA (dD q 9 158)) (yA (dD q 10 159)) hnN zU27 isz_29 rfl) (hK _ rfl),
        fun ac W hb o q K hK => op_u (u := .agg xc.toArray) rfl (r_load_row 29 _ rfl (yA (dD q 11 160)) xc (HROWS.out W hb.1).cells zU29 rfl (HROWS.out W hb.1).info) (hK _ rfl),
        fun ac W hb hold hdep v hM hv K hK => step_call (want_free rfl) 26 _ _ rfl (#[v, .agg xc.toArray]) (by simp [(yA (hv 0 rfl 156 rfl)), (yA (dD hdep 12 161))]) Tryz.func26 (by kernel_rfl) (by kernel_rfl) (HIK.out W v hM hb.1) (fun e w' ⟨v', he, hr, hbb, hk⟩ => ⟨v', he, hK v' w' hr trivial ⟨hbb, hk⟩⟩),
        fun ac W hb hold hdep v hM hv K hK => op_u (u := v) rfl (r_assign _ rfl (yA (hv 1 rfl 162 rfl))) (hK v W hM trivial ⟨Below.refl _ _, Keeps.refl _⟩), trivial⟩ ?_
       intro w3 v3 hC hM
       simp only [Fin, Act.put, List.set, zD, zA, zB]
       rintro t1 - t2 -
       have HR3 : Hid (Rb w3 base v3 (l ++ subsB (S.take (n + 1)))) := by unfold Hid; rw [HNJ.out]; exact hM
       have HB3 : Hid (Below base wp w3) := HBp.out.trans hC.1
       have HK3 : Hid (Keeps wp w3) := HKp.out.trans hC.2
       clear hC hM
       go_wp2
       go_roundw
       case rel => exact ⟨n + 1, by omega, by go_num, HR3.out, HB3.out, HK3.out⟩
       case measure => simp [intOf]; omega
     · have hnk : n = N := by omega
       rw [hnk, List.take_of_length_le (by rw [HSQ.out, List.length_map, HSL.out]; exact Nat.le_refl _)] at hRj
       have HRj := Hi hRj
       have hll : (l ++ subsB S).length + 24 ≤ 140737488355328 := by have := HSZ.out; rw [zG]; omega
       have HLL := Hi hll
       clear hRj hBj hKj hnk hll
       go_wp2_with (go_at_call 58
                    refine (refHeader1 base u0 (l ++ subsB S) (-1) wj HRj.out hbj HLL.out).mono ?_
                    rintro e wk ⟨vk, rfl, hr, hb, hk⟩
                    have HRk := Hi hr
                    have HBk := Hi (HBj.out.trans hb)
                    have HKk := Hi (HKj.out.trans hk)
                    clear hr hb hk)
       go_roundw
       case rel => exact ⟨k + 1, by omega, by go_num, by rw [if_neg (by omega), ← zL]; exact HRk.out, HBk.out, HKk.out⟩
       case measure => simp [intOf]; omega

def gv (c : Bool) (v : Value) : Value := bif c then v else undef
section
variable {P : Program} {ops : Array Oper} {rest : List Oper} {o : Oper} {a : Act} {w : World} {Q : Exit → Act → World → Prop}
theorem ev {k : Nat} {v : Value} (h : a.tmps.toList[k]? = some v) : a.eval (.tmp k) = v := yA (by rw [← Array.getElem?_toList]; exact h)
theorem evg {k : Nat} {v : Value} {c : Bool} (h : a.tmps.toList[k]? = some (gv c v)) (hc : c = true) : a.eval (.tmp k) = v := yB (by rw [← Array.getElem?_toList]; exact h) hc
theorem wa {i k : Nat} {b x : Bool} (h : o.guard = some (i, b)) (hk : dstAt ops i = some k) (hv : a.tmps.toList[k]? = some (.bool x)) : Region.wanted o (yielded ops a.tmps) = (x == b) := yE h hk (by rw [← Array.getElem?_toList]; exact hv)
theorem wg {i k : Nat} {b x c : Bool} (h : o.guard = some (i, b)) (hk : dstAt ops i = some k) (hv : a.tmps.toList[k]? = some (gv c (.bool x))) : Region.wanted o (yielded ops a.tmps) = (c && (x == b)) := want_if h hk (by rw [← Array.getElem?_toList]; exact hv)
theorem yD (l : List Value) (d) (k : Nat) (v : Value) : (Act.mk l.toArray d).put (some k) v = Act.mk (l.set k v).toArray d := by simp [Act.put]
theorem mapA1 {x : Operand} {v : Value} (h : a.eval x = v) : (#[x] : Array Operand).toList.map a.eval = (#[v] : Array Value).toList := by simp [h]
theorem mapA2 {x y : Operand} {u v : Value} (h1 : a.eval x = u) (h2 : a.eval y = v) : (#[x, y] : Array Operand).toList.map a.eval = (#[u, v] : Array Value).toList := by simp [h1, h2]
theorem wpL_u {u : Value} (hg : o.guard = none) (hr : (execOp a.eval o).run P w = .ok (.value u) w) (h : wpList P ops Q rest (a.put o.dst u) w) : wpList P ops Q (o :: rest) a w := wpList_step fun K hK => op_u hg hr (hK _ _ h)
theorem wpL_g {c : Bool} {u : Value} (hw : Region.wanted o (yielded ops a.tmps) = c) (hr : c = true → (execOp a.eval o).run P w = .ok (.value u) w) (h : wpList P ops Q rest (a.put o.dst (gv c u)) w) : wpList P ops Q (o :: rest) a w :=
 wpList_step fun K hK => op_g hw hr (hK _ _ h)
theorem wpL_mv {x : Operand} {v : Value} (hg : o.guard = none) (ho : o.op = .move x) (hx : a.eval x = v) (h : wpList P ops Q rest (a.put o.dst v) w) : wpList P ops Q (o :: rest) a w := wpL_u hg (r_move x ho hx) h
theorem wpL_as {x : Operand} {v : Value} (hg : o.guard = none) (ho : o.op = .assign x) (hx : a.eval x = v) (h : wpList P ops Q rest (a.put o.dst v) w) : wpList P ops Q (o :: rest) a w := wpL_u hg (r_assign x ho hx) h
theorem wpL_mvg {x : Operand} {v : Value} {c : Bool} (hw : Region.wanted o (yielded ops a.tmps) = c) (ho : o.op = .move x) (hx : c = true → a.eval x = v) (h : wpList P ops Q rest (a.put o.dst (gv c v)) w) : wpList P ops Q (o :: rest) a w := wpL_g hw (fun hc => r_move x ho (hx hc)) h
theorem wpL_c {c : Bool} {u : Value} (hw : Region.wanted o (yielded ops a.tmps) = c) (f : FuncId) (xs : Array Operand) (ats : Array TypeId) (ho : o.op = .call { callee := .value (.func f), args := xs, argTypes := ats }) (args : Array Value) (hx0 : c = true → xs.toList.map a.eval = args.toList)
 {fn : Func} (hf : P.funcs[f]? = some fn) (hn : (fn.name == "runtime.NumGoroutine") = false) (hb : fn.body.isNone = false) (hc : c = true → Calls P f args w fun e w' => e = .returned u ∧ w' = w)
 (h : wpList P ops Q rest (a.put o.dst (gv c u)) w) : wpList P ops Q (o :: rest) a w := wpList_step fun K hK => by
 cases c
 · rw [if_neg (by rw [hw]; simp)]
   exact hK _ _ h
 · exact step_call hw f xs ats ho args (hx0 rfl) hf hn hb (hc rfl) (fun e w' h1 => ⟨u, h1.1, by rw [h1.2]; exact hK _ _ h⟩)
end

theorem big_t {f : OpF} {n : Nat} (ht : f.t = 22) (h : 1024 < n) : bigB f n = true := by
 have : decide ((n : Int) > 1024) = true := decide_eq_true (by omega)
 simp [bigB, manyB, ht, this]
theorem acl_cellsO {w : World} {B n : Nat} {A : Option Addr} {L : List AclT} (h : Reads w B 3 A n (aclCells L)) (hn : L.length = n) {j : Nat} (hj : j < L.length) : ∃ ad, A = some ad ∧ w.cell? (ad.add (j * 3 + 1)) = some (.string L[j].2.1) ∧ w.cell? (ad.add (j * 3 + 2)) = some (.string L[j].2.2) := by
 obtain ⟨ad, hA, _, hc⟩ := h.2 (by omega)
 obtain ⟨_, h1, h2⟩ := aclCells_get L j hj
 exact ⟨ad, hA, hc _ _ h1, hc _ _ h2⟩
theorem big_id {f : OpF} {n : Nat} {x : ByteArray × ByteArray} (hx : x ∈ f.ids) (h : 256 < x.1.size ∨ 256 < x.2.size) : bigB f n = true := by
 have : f.ids.any longI = true := List.any_eq_true.2 ⟨x, hx, by unfold longI; rcases h with h | h <;> simp <;> omega⟩
 simp [bigB, this]
theorem big_fix {f : OpF} {n : Nat} (h : 4096 < f.p.size ∨ 1048575 < f.l.length ∨ 16 < f.L.length ∨ 16 < f.I.length) : bigB f n = true := by
 rcases h with h | h | h | h
 · simp [bigB, show decide ((f.p.size : Int) > 4096) = true from decide_eq_true (by omega)]
 · simp [bigB, show decide ((f.l.length : Int) > 1048575) = true from decide_eq_true (by omega)]
 · simp [bigB, show decide ((f.L.length : Int) > 16) = true from decide_eq_true (by omega)]
 · simp [bigB, show decide ((f.I.length : Int) > 16) = true from decide_eq_true (by omega)]
theorem texts_at {f : OpF} {x : ByteArray} (h : x ∈ f.texts) : ∃ j, ∃ hj : j < 5, x ∈ f.lists[j]'hj := by
 simp only [OpF.texts, List.mem_append] at h
 rcases h with h | h | h | h | h
 · exact ⟨0, by decide, h⟩
 · exact ⟨1, by decide, h⟩
 · exact ⟨2, by decide, h⟩
 · exact ⟨3, by decide, h⟩
 · exact ⟨4, by decide, h⟩
theorem big_no {f : OpF} {n : Nat} (h0 : ((f.t == 22) && decide ((n : Int) > 1024)) = false) (hL : ∀ z (hz : z < 5), (f.lists[z]'hz).length ≤ 1024 ∧ ∀ x ∈ f.lists[z]'hz, x.size ≤ 4096) (h1 : ¬ 4096 < f.p.size) (h2 : ¬ 1048575 < f.l.length) (h3 : ¬ 16 < f.L.length) (h4 : ¬ 16 < f.I.length)
 (hA : ∀ z (hz : z < f.L.length), (f.L[z]).2.1.size ≤ 256 ∧ (f.L[z]).2.2.size ≤ 256) (hI : ∀ z (hz : z < f.I.length), (f.I[z]).1.size ≤ 256 ∧ (f.I[z]).2.size ≤ 256) : bigB f n = false := by
 have a1 : (f.lists.any fun l => decide ((l.length : Int) > 1024)) = false := List.any_eq_false.2 fun l hl => by
  obtain ⟨j, hj, rfl⟩ := List.mem_iff_getElem.1 hl
  have := (hL j hj).1
  simp; omega
 have a2 : f.texts.any longP = false := List.any_eq_false.2 fun x hx => by
  obtain ⟨j, hj, hm⟩ := texts_at hx
  have := (hL j hj).2 x hm
  unfold longP
  simp; omega
 have a3 : f.ids.any longI = false := List.any_eq_false.2 fun x hx => by
  have : x.1.size ≤ 256 ∧ x.2.size ≤ 256 := by
   rcases List.mem_append.1 hx with h | h
   · obtain ⟨j, hj, rfl⟩ := List.mem_iff_getElem.1 h
     exact hI j hj
   · obtain ⟨y, hy, rfl⟩ := List.mem_map.1 h
     obtain ⟨j, hj, rfl⟩ := List.mem_iff_getElem.1 hy
     exact hA j hj
  unfold longI
  simp; omega
 unfold bigB manyB
 rw [a1, a2, a3, h0, decide_eq_false (by omega : ¬ (f.p.size : Int) > 4096), decide_eq_false (by omega : ¬ (f.l.length : Int) > 1048575), decide_eq_false (by omega : ¬ (f.L.length : Int) > 16), decide_eq_false (by omega : ¬ (f.I.length : Int) > 16)]
 rfl
theorem refSize_any {lo : Option Nat} (f : OpF) (d a k0 k1 k2 k3 k4 i s : Sl) (w : World) (h : FAt w lo f d a k0 k1 k2 k3 k4 i) (hsn : s.n ≤ 4611686018427387904) (cs : Array Value) (hcs : cs = (f.row d a k0 k1 k2 k3 k4 i s).toArray) :
 Calls Tryz.prog 73 #[.agg cs] w fun e w' => e = .returned (.int .i64 (if bigB f s.n then 3 else 0)) ∧ Below w.heap.size w w' := by
 have HCS : Hid (cs = (f.rowL d a [k0, k1, k2, k3, k4] i s).toArray) := hcs
 obtain ⟨w1, hw1⟩ := xa w cs 29
 have hb1 := newB hw1
 have hn1 := newK hw1
 have HB1 := Hi hb1
 have HN1 := Hi hn1
 have c0 : w1.cell? ⟨w.heap.size, 0, none⟩ = some (.int .i32 f.t) := yC hn1 0 (by rw [hcs]; rfl)
 have c1 : w1.cell? ⟨w.heap.size, 1, none⟩ = some (.string f.p) := yC hn1 1 (by rw [hcs]; rfl)
 have c2 : w1.cell? ⟨w.heap.size, 2, none⟩ = some (.slice d.A d.n d.c) := yC hn1 2 (by rw [hcs]; rfl)
 have c3 : w1.cell? ⟨w.heap.size, 3, none⟩ = some (.slice a.A a.n a.c) := yC hn1 3 (by rw [hcs]; rfl)
 have c17 : w1.cell? ⟨w.heap.size, 17, none⟩ = some (.slice i.A i.n i.c) := yC hn1 17 (by rw [hcs]; rfl)
 have c18 : w1.cell? ⟨w.heap.size, 18, none⟩ = some (.slice s.A s.n s.c) := yC hn1 18 (by rw [hcs]; rfl)
 have HH := Hi (h.later hb1)
 clear h hcs hb1 hn1
 by_cases h22 : f.t = 22 ∧ 1024 < s.n
 · obtain ⟨ht, hs⟩ := h22
   rw [big_t ht hs, if_pos rfl]
   rw [ht] at c0
   go_enter Tryz.func73, Tryz.ntmps73
   go_wp2
   go_ret
   exact ⟨rfl, HB1.out⟩
 have hcase : (f.t = 22 ∧ ¬ 1024 < s.n) ∨ ¬ f.t = 22 := by
  by_cases ht : f.t = 22
  · exact .inl ⟨ht, fun hs => h22 ⟨ht, hs⟩⟩
  · exact .inr ht
 have HNT : Hid (((f.t == 22) && decide ((s.n : Int) > 1024)) = false) := by
  unfold Hid
  rcases hcase with ⟨ht, hs⟩ | ht
  · rw [show decide ((s.n : Int) > 1024) = false from decide_eq_false (by omega), Bool.and_false]
  · rw [show (f.t == 22) = false from by simpa using ht, Bool.false_and]
 have HKS : Hid (∀ j (hj : j < 5), SlAt w1 lo 9 1 16 ([k0, k1, k2, k3, k4][j]'hj) (f.lists[j]'hj).length (strCells (f.lists[j]'hj))) := fun j hj => by
  rcases (by omega : j = 0 ∨ j = 1 ∨ j = 2 ∨ j = 3 ∨ j = 4) with rfl | rfl | rfl | rfl | rfl
  · exact HH.out.k0
  · exact HH.out.k1
  · exact HH.out.k2
  · exact HH.out.k3
  · exact HH.out.k4
 obtain ⟨tt, htt⟩ : ∃ t, t = f.t := ⟨_, rfl⟩
 rw [← htt] at c0 hcase
 clear h22 htt
 obtain ⟨r, hr⟩ : ∃ r : Int, r = if bigB f s.n then 3 else 0 := ⟨_, rfl⟩
 rw [← hr]
 have HRR := Hi hr
 clear hr
 rcases hcase with ⟨rfl, hs1⟩ | ht1
 rotate_left
 have htb : (tt == 22) = false := by simpa using ht1
 all_goals
  go_enter Tryz.func73, Tryz.ntmps73
  go_wp2
  go_loopw [3] (fun v3 wr => ∃ j : Nat, j ≤ 5 ∧ v3 = .int .i64 (j : Int) ∧ w1 = wr ∧ Hid (∀ z (hz : z < 5), z < j → (f.lists[z]'hz).length ≤ 1024 ∧ ∀ x ∈ f.lists[z]'hz, x.size ≤ 4096)) (fun v3 _ => 5 - (intOf v3).toNat)
  case atStart => exact ⟨0, by omega, rfl, rfl, fun z _ hz => absurd hz (by omega)⟩
  case round =>
   obtain ⟨j, hj, rfl, rfl, HJ⟩ := hrel
   by_cases hlt : j < 5
   · have hsk := HKS.out j hlt
     have hck0 : w1.cell? ⟨w.heap.size, 11 + j, none⟩ = some (([k0, k1, k2, k3, k4][j]'hlt).v) := yC HN1.out (11 + j) (by rw [HCS.out]; exact rowL_get rfl hlt)
     obtain ⟨kj, hkj⟩ : ∃ k, k = ([k0, k1, k2, k3, k4][j]'hlt) := ⟨_, rfl⟩
     rw [← hkj] at hsk hck0
     have HCK : Hid (w1.cell? ⟨w.heap.size, 11 + j, none⟩ = some (.slice kj.A kj.n kj.c)) := hck0
     have HSK := Hi hsk
     have hkl : (f.lists[j]'hlt).length = kj.n := hsk.len
     have HKL := Hi hkl
     have hbd := hsk.bd (by decide)
     clear hkj hsk hck0 hkl
     by_cases hlen : 1024 < kj.n
     · have HBIG := Hi (big_kl (n := s.n) hlt (by rw [HKL.out]; exact hlen))
       go_wp2_with (with_reducible refine wpAt 23 ?_; refine wpList_load1 rfl 24 (.tmp 22) rfl ⟨w.heap.size, 11 + j, none⟩ rfl HCK.out zU24 rfl ?_)
       go_ret
       exact ⟨by rw [HRR.out, if_pos HBIG.out]; rfl, HB1.out⟩
     · go_wp2_with (with_reducible refine wpAt 23 ?_; refine wpList_load1 rfl 24 (.tmp 22) rfl ⟨w.heap.size, 11 + j, none⟩ rfl HCK.out zU24 rfl ?_)
       go_loopw [4] (fun v4 wr => ∃ m : Nat, m ≤ kj.n ∧ v4 = .int .i64 (m : Int) ∧ w1 = wr ∧ Hid (∀ z (hz : z < (f.lists[j]'hlt).length), z < m → ((f.lists[j]'hlt)[z]).size ≤ 4096)) (fun v4 _ => kj.n - (intOf v4).toNat)
       case atStart => exact ⟨0, by omega, rfl, rfl, fun z _ hz => absurd hz (by omega)⟩
       case round =>
        obtain ⟨m, hm, rfl, rfl, HM⟩ := hrel
        by_cases hmk : m < kj.n
        · have hml : m < (f.lists[j]'hlt).length := by rw [HKL.out]; exact hmk
          obtain ⟨ad, hA, hsc⟩ := str_cellO HSK.out.reads HKL.out hml
          obtain ⟨kA, kn, kc⟩ := kj
          dsimp only at hA hmk hlen hbd hm HCK
          subst hA
          obtain ⟨x, hx⟩ : ∃ x, x = (f.lists[j]'hlt)[m] := ⟨_, rfl⟩
          rw [← hx] at hsc
          have HX := Hi hx
          have HSC := Hi hsc
          clear hx hsc
          by_cases hxl : 4096 < x.size
          · have HBIG : Hid (bigB f s.n = true) := big_kt (x := x) hlt (by rw [HX.out]; exact List.getElem_mem _) hxl
            go_wp2_with (first
             | (with_reducible refine wpAt 30 ?_; refine wpList_load1 rfl 24 (.tmp 29) rfl ⟨w.heap.size, 11 + j, none⟩ rfl HCK.out zU24 rfl ?_)
             | (with_reducible refine wpAt 38 ?_; refine wpList_load1 rfl 24 (.tmp 37) rfl ⟨w.heap.size, 11 + j, none⟩ rfl HCK.out zU24 rfl ?_)
             | (with_reducible refine wpAt 41 ?_; refine wpList_load1 rfl 9 (.tmp 40) rfl (ad.add m) rfl HSC.out zU9 rfl ?_))
            go_ret
            exact ⟨by rw [HRR.out, if_pos HBIG.out]; rfl, HB1.out⟩
          · have HM' : Hid (∀ z (hz : z < (f.lists[j]'hlt).length), z < m + 1 → ((f.lists[j]'hlt)[z]).size ≤ 4096) := fun z hz hzm => by
             rcases Nat.lt_or_ge z m with h | h
             · exact HM.out z hz h
             · obtain rfl : z = m := by omega
               rw [← HX.out]
               omega
            go_wp2_with (first
             | (with_reducible refine wpAt 30 ?_; refine wpList_load1 rfl 24 (.tmp 29) rfl ⟨w.heap.size, 11 + j, none⟩ rfl HCK.out zU24 rfl ?_)
             | (with_reducible refine wpAt 38 ?_; refine wpList_load1 rfl 24 (.tmp 37) rfl ⟨w.heap.size, 11 + j, none⟩ rfl HCK.out zU24 rfl ?_)
             | (with_reducible refine wpAt 41 ?_; refine wpList_load1 rfl 9 (.tmp 40) rfl (ad.add m) rfl HSC.out zU9 rfl ?_))
            go_roundw
            case rel => exact ⟨m + 1, by omega, by go_num, trivial, HM'.out⟩
            case measure => simp [intOf]; omega
        · have HJ' : Hid (∀ z (hz : z < 5), z < j + 1 → (f.lists[z]'hz).length ≤ 1024 ∧ ∀ x ∈ f.lists[z]'hz, x.size ≤ 4096) := fun z hz hzj => by
           rcases Nat.lt_or_ge z j with h | h
           · exact HJ.out z hz h
           · obtain rfl : z = j := by omega
             refine ⟨by rw [HKL.out]; omega, fun x hx => ?_⟩
             obtain ⟨y, hy, rfl⟩ := List.mem_iff_getElem.1 hx
             exact HM.out y hy (by rw [HKL.out] at hy; omega)
          go_wp2_with (with_reducible refine wpAt 30 ?_; refine wpList_load1 rfl 24 (.tmp 29) rfl ⟨w.heap.size, 11 + j, none⟩ rfl HCK.out zU24 rfl ?_)
          go_roundw
          case rel => exact ⟨j + 1, by omega, by go_num, trivial, HJ'.out⟩
          case measure => simp [intOf]; omega
   · obtain rfl : j = 5 := by omega
     rw [show ((5 : Nat) : Int) = 5 from rfl]
     have HLs : Hid (∀ z (hz : z < 5), (f.lists[z]'hz).length ≤ 1024 ∧ ∀ x ∈ f.lists[z]'hz, x.size ≤ 4096) := fun z hz => HJ.out z hz hz
     have HDL : Hid (f.l.length = d.n) := HH.out.d.len
     have HAL : Hid (f.L.length = a.n) := HH.out.a.len
     have HIL : Hid (f.I.length = i.n) := HH.out.i.len
     clear HJ hlt hj HKS
     by_cases hfix : 4096 < f.p.size ∨ 1048575 < d.n ∨ 16 < a.n ∨ 16 < i.n
     · have HBIG : Hid (bigB f s.n = true) := big_fix (by rw [HDL.out, HAL.out, HIL.out]; exact hfix)
       have hd4 : (4096 < f.p.size) ∨ (¬ 4096 < f.p.size ∧ 1048575 < d.n) ∨ (¬ 4096 < f.p.size ∧ ¬ 1048575 < d.n ∧ 16 < a.n) ∨ (¬ 4096 < f.p.size ∧ ¬ 1048575 < d.n ∧ ¬ 16 < a.n ∧ 16 < i.n) := by omega
       clear hfix
       rcases hd4 with h1 | ⟨h1, h2⟩ | ⟨h1, h2, h3⟩ | ⟨h1, h2, h3, h4⟩
       all_goals
        go_wp2
        go_ret
        exact ⟨by rw [HRR.out, if_pos HBIG.out]; rfl, HB1.out⟩
     · have h1 : ¬ 4096 < f.p.size := by omega
       have h2 : ¬ 1048575 < d.n := by omega
       have h3 : ¬ 16 < a.n := by omega
       have h4 : ¬ 16 < i.n := by omega
       clear hfix
       go_wp2
       go_loopw [5] (fun v5 wr => ∃ k : Nat, k ≤ a.n ∧ v5 = .int .i64 (k : Int) ∧ w1 = wr ∧ Hid (∀ z (hz : z < f.L.length), z < k → (f.L[z]).2.1.size ≤ 256 ∧ (f.L[z]).2.2.size ≤ 256)) (fun v5 _ => a.n - (intOf v5).toNat)
       case atStart => exact ⟨0, by omega, rfl, rfl, fun z _ hz => absurd hz (by omega)⟩
       case round =>
        obtain ⟨k, hk, rfl, rfl, HK⟩ := hrel
        by_cases hka : k < a.n
        · have hkl : k < f.L.length := by rw [HAL.out]; exact hka
          obtain ⟨ad, hA, hs1', hs2'⟩ := acl_cellsO HH.out.a.reads HAL.out hkl
          obtain ⟨x, hx⟩ : ∃ x, x = (f.L[k]).2.1 := ⟨_, rfl⟩
          obtain ⟨y, hy⟩ : ∃ y, y = (f.L[k]).2.2 := ⟨_, rfl⟩
          rw [← hx] at hs1'
          rw [← hy] at hs2'
          have HX := Hi hx
          have HY := Hi hy
          have HS1 := Hi hs1'
          have HS2 := Hi hs2'
          rw [hA] at c3
          have HC3 := Hi c3
          clear hx hy hs1' hs2' hA
          go_wp2_with (with_reducible refine wpAt 73 ?_; refine Hid.out ?_)
          refine Hi ?_
          refine wpL_u rfl (r_field 29 _ 3 rfl (ev rfl) zU29 rfl (n := 0) isz_23 rfl) ?_
          simp only [yD, zA, zB]
          refine wpL_u rfl (r_load 23 _ rfl (ev rfl) HC3.out zU23 rfl) ?_
          simp only [yD, zA, zB]
          refine wpL_mv rfl rfl (ev rfl) ?_
          simp only [yD, zA, zB]
          refine wpL_u rfl (r_index 23 _ _ rfl (ev rfl) (ev rfl) hka zU23 isz_104 rfl) ?_
          simp only [yD, zA, zB]
          refine wpL_u rfl (r_field 104 _ 1 rfl (ev rfl) zU104 rfl (n := 1) isz_102 (Addr.add_add _ _ _)) ?_
          simp only [yD, zA, zB]
          refine wpL_u rfl (r_field 102 _ 0 rfl (ev rfl) zU102 rfl (n := 0) isz_9 rfl) ?_
          simp only [yD, zA, zB]
          refine wpL_u rfl (r_load 9 _ rfl (ev rfl) HS1.out zU9 rfl) ?_
          simp only [yD, zA, zB]
          refine wpL_u rfl (r_lens _ 9 rfl (ev rfl) zU9) ?_
          simp only [yD, zA, zB]
          refine wpL_u rfl (r_igt 3 _ _ _ rfl (ev rfl) rfl) ?_
          simp only [yD, zA, zB]
          refine wpL_mv rfl rfl (ev rfl) ?_
          simp only [yD, zA, zB]
          refine wpL_g (wa rfl rfl rfl) (fun hc => r_field 29 _ 3 rfl (ev rfl) zU29 rfl (n := 0) isz_23 rfl) ?_
          simp only [yD, zA, zB]
          refine wpL_g (wa rfl rfl rfl) (fun hc => r_load 23 _ rfl (evg rfl hc) HC3.out zU23 rfl) ?_
          simp only [yD, zA, zB]
          refine wpL_mvg (wa rfl rfl rfl) rfl (fun hc => (ev rfl)) ?_
          simp only [yD, zA, zB]
          refine wpL_g (wa rfl rfl rfl) (fun hc => r_index 23 _ _ rfl (evg rfl hc) (evg rfl hc) hka zU23 isz_104 rfl) ?_
          simp only [yD, zA, zB]
          refine wpL_g (wa rfl rfl rfl) (fun hc => r_field 104 _ 1 rfl (evg rfl hc) zU104 rfl (n := 1) isz_102 (Addr.add_add _ _ _)) ?_
          simp only [yD, zA, zB]
          refine wpL_g (wa rfl rfl rfl) (fun hc => r_field 102 _ 1 rfl (evg rfl hc) zU102 rfl (n := 0) isz_9 (Addr.add_add _ _ _)) ?_
          simp only [yD, zA, zB]
          refine wpL_g (wa rfl rfl rfl) (fun hc => r_load 9 _ rfl (evg rfl hc) HS2.out zU9 rfl) ?_
          simp only [yD, zA, zB]
          refine wpL_g (wa rfl rfl rfl) (fun hc => r_lens _ 9 rfl (evg rfl hc) zU9) ?_
          simp only [yD, zA, zB]
          refine wpL_g (wa rfl rfl rfl) (fun hc => r_igt 3 _ _ _ rfl (evg rfl hc) rfl) ?_
          simp only [yD, zA, zB]
          refine wpL_u rfl (r_or _ _ _ rfl (ev rfl) rfl (fun hb => evg rfl (by simp [hb]))) ?_
          simp only [yD, zA, zB]
          obtain ⟨g, hg⟩ : ∃ g, g = ((decide (((x.size : Int) : Int) > 256)) || (decide (((y.size : Int) : Int) > 256))) := ⟨_, rfl⟩
          rw [← hg]
          cases g
          rotate_left
          · have hg' : 256 < x.size ∨ 256 < y.size := by
             have h := hg.symm
             rw [Bool.or_eq_true, decide_eq_true_iff, decide_eq_true_iff] at h
             omega
            have HBIG : Hid (bigB f s.n = true) := big_id (x := (x, y)) (List.mem_append_right _ (List.mem_map.2 ⟨_, List.getElem_mem hkl, by rw [HX.out, HY.out]⟩)) hg'
            clear hg hg'
            go_wp2
            go_ret
            exact ⟨by rw [HRR.out, if_pos HBIG.out]; rfl, HB1.out⟩
          · have hg' : x.size ≤ 256 ∧ y.size ≤ 256 := by
             have h := hg.symm
             rw [Bool.or_eq_false_iff, decide_eq_false_iff_not, decide_eq_false_iff_not] at h
             omega
            have HK' : Hid (∀ z (hz : z < f.L.length), z < k + 1 → (f.L[z]).2.1.size ≤ 256 ∧ (f.L[z]).2.2.size ≤ 256) := fun z hz hzk => by
             rcases Nat.lt_or_ge z k with h | h
             · exact HK.out z hz h
             · obtain rfl : z = k := by omega
               rw [← HX.out, ← HY.out]
               exact hg'
            clear hg hg'
            go_wp2
            go_roundw
            case rel => exact ⟨k + 1, by omega, by go_num, trivial, HK'.out⟩
            case measure => simp [intOf]; omega
        · have HA' : Hid (∀ z (hz : z < f.L.length), (f.L[z]).2.1.size ≤ 256 ∧ (f.L[z]).2.2.size ≤ 256) := fun z hz => HK.out z hz (by rw [HAL.out] at hz; omega)
          clear HK
          go_wp2
          go_loopw [6] (fun v6 wr => ∃ k : Nat, k ≤ i.n ∧ v6 = .int .i64 (k : Int) ∧ w1 = wr ∧ Hid (∀ z (hz : z < f.I.length), z < k → (f.I[z]).1.size ≤ 256 ∧ (f.I[z]).2.size ≤ 256)) (fun v6 _ => i.n - (intOf v6).toNat)
          case atStart => exact ⟨0, by omega, rfl, rfl, fun z _ hz => absurd hz (by omega)⟩
          case round =>
           obtain ⟨k, hk, rfl, rfl, HK⟩ := hrel
           by_cases hka : k < i.n
           · have hkl : k < f.I.length := by rw [HIL.out]; exact hka
             obtain ⟨ad, hA, hs1', hs2'⟩ := id_cellsO HH.out.i.reads HIL.out hkl
             obtain ⟨x, hx⟩ : ∃ x, x = (f.I[k]).1 := ⟨_, rfl⟩
             obtain ⟨y, hy⟩ : ∃ y, y = (f.I[k]).2 := ⟨_, rfl⟩
             rw [← hx] at hs1'
             rw [← hy] at hs2'
             have HX := Hi hx
             have HY := Hi hy
             have HS1 := Hi hs1'
             have HS2 := Hi hs2'
             rw [hA] at c17
             have HC17 := Hi c17
             clear hx hy hs1' hs2' hA
             go_wp2_with (with_reducible refine wpAt 100 ?_; refine Hid.out ?_)
             refine Hi ?_
             refine wpL_u rfl (r_field 29 _ 13 rfl (ev rfl) zU29 rfl (n := 0) isz_26 rfl) ?_
             simp only [yD, zA, zB]
             refine wpL_u rfl (r_load 26 _ rfl (ev rfl) HC17.out zU26 rfl) ?_
             simp only [yD, zA, zB]
             refine wpL_mv rfl rfl (ev rfl) ?_
             simp only [yD, zA, zB]
             refine wpL_u rfl (r_index 26 _ _ rfl (ev rfl) (ev rfl) hka zU26 isz_102 rfl) ?_
             simp only [yD, zA, zB]
             refine wpL_u rfl (r_field 102 _ 0 rfl (ev rfl) zU102 rfl (n := 0) isz_9 rfl) ?_
             simp only [yD, zA, zB]
             refine wpL_u rfl (r_load 9 _ rfl (ev rfl) HS1.out zU9 rfl) ?_
             simp only [yD, zA, zB]
             refine wpL_u rfl (r_lens _ 9 rfl (ev rfl) zU9) ?_
             simp only [yD, zA, zB]
             refine wpL_u rfl (r_igt 3 _ _ _ rfl (ev rfl) rfl) ?_
             simp only [yD, zA, zB]
             refine wpL_mv rfl rfl (ev rfl) ?_
             simp only [yD, zA, zB]
             refine wpL_g (wa rfl rfl rfl) (fun hc => r_field 29 _ 13 rfl (ev rfl) zU29 rfl (n := 0) isz_26 rfl) ?_
             simp only [yD, zA, zB]
             refine wpL_g (wa rfl rfl rfl) (fun hc => r_load 26 _ rfl (evg rfl hc) HC17.out zU26 rfl) ?_
             simp only [yD, zA, zB]
             refine wpL_mvg (wa rfl rfl rfl) rfl (fun hc => (ev rfl)) ?_
             simp only [yD, zA, zB]
             refine wpL_g (wa rfl rfl rfl) (fun hc => r_index 26 _ _ rfl (evg rfl hc) (evg rfl hc) hka zU26 isz_102 rfl) ?_
             simp only [yD, zA, zB]
             refine wpL_g (wa rfl rfl rfl) (fun hc => r_field 102 _ 1 rfl (evg rfl hc) zU102 rfl (n := 0) isz_9 (Addr.add_add _ _ _)) ?_
             simp only [yD, zA, zB]
             refine wpL_g (wa rfl rfl rfl) (fun hc => r_load 9 _ rfl (evg rfl hc) HS2.out zU9 rfl) ?_
             simp only [yD, zA, zB]
             refine wpL_g (wa rfl rfl rfl) (fun hc => r_lens _ 9 rfl (evg rfl hc) zU9) ?_
             simp only [yD, zA, zB]
             refine wpL_g (wa rfl rfl rfl) (fun hc => r_igt 3 _ _ _ rfl (evg rfl hc) rfl) ?_
             simp only [yD, zA, zB]
             refine wpL_u rfl (r_or _ _ _ rfl (ev rfl) rfl (fun hb => evg rfl (by simp [hb]))) ?_
             simp only [yD, zA, zB]
             obtain ⟨g, hg⟩ : ∃ g, g = ((decide (((x.size : Int) : Int) > 256)) || (decide (((y.size : Int) : Int) > 256))) := ⟨_, rfl⟩
             rw [← hg]
             cases g
             rotate_left
             · have hg' : 256 < x.size ∨ 256 < y.size := by
                have h := hg.symm
                rw [Bool.or_eq_true, decide_eq_true_iff, decide_eq_true_iff] at h
                omega
               have HBIG : Hid (bigB f s.n = true) := big_id (x := (x, y)) (List.mem_append_left _ (by rw [HX.out, HY.out]; exact List.getElem_mem hkl)) hg'
               clear hg hg'
               go_wp2
               go_ret
               exact ⟨by rw [HRR.out, if_pos HBIG.out]; rfl, HB1.out⟩
             · have hg' : x.size ≤ 256 ∧ y.size ≤ 256 := by
                have h := hg.symm
                rw [Bool.or_eq_false_iff, decide_eq_false_iff_not, decide_eq_false_iff_not] at h
                omega
               have HK' : Hid (∀ z (hz : z < f.I.length), z < k + 1 → (f.I[z]).1.size ≤ 256 ∧ (f.I[z]).2.size ≤ 256) := fun z hz hzk => by
                rcases Nat.lt_or_ge z k with h | h
                · exact HK.out z hz h
                · obtain rfl : z = k := by omega
                  rw [← HX.out, ← HY.out]
                  exact hg'
               clear hg hg'
               go_wp2
               go_roundw
               case rel => exact ⟨k + 1, by omega, by go_num, trivial, HK'.out⟩
               case measure => simp [intOf]; omega
           · have HBIG : Hid (bigB f s.n = false) := big_no HNT.out HLs.out h1 (by rw [HDL.out]; exact h2) (by rw [HAL.out]; exact h3) (by rw [HIL.out]; exact h4) HA'.out (fun z hz => HK.out z hz (by rw [HIL.out] at hz; omega))
             go_wp2
             go_ret
             exact ⟨by rw [HRR.out, if_neg (by rw [HBIG.out]; decide)]; rfl, HB1.out⟩
end Go.Proofs.YtpjjnmdfgcfnmaaGreatDoor
