/- Part 8 of a proof: lemmas and walks. -/
import Derived.Test.YtpjjnmdfgcfnmaaDoorK0
import Derived.Test.YtpjjnmdfgcfnmaaDoorK1
import Derived.Test.YtpjjnmdfgcfnmaaDoorK3
import Derived.Test.YtpjjnmdfgcfnmaaDoorK6
import Derived.WalkSmall
import Derived.Shelf.Unicode.DecodeSlow
import Derived.Deep.QuietTactic
import Derived.BigQuiet
import Derived.Laws.BitsAllLaws
import Derived.Lib.ValidU
set_option linter.unusedVariables false
set_option linter.unusedSimpArgs false
set_option maxRecDepth 100000
set_option maxHeartbeats 4000000
namespace Go.Proofs.YtpjjnmdfgcfnmaaDoor
open Go.RowKit

def pIdB (x : ByteArray × ByteArray) : List UInt8 := bBuf x.1.data.toList ++ bBuf x.2.data.toList
def pIdsB (L : List (ByteArray × ByteArray)) : List UInt8 := L.flatMap pIdB
def pAclB (x : AclT) : List UInt8 := bInt x.1 ++ pIdB x.2
def pAclsB (L : List AclT) : List UInt8 := L.flatMap pAclB
theorem pIdB_len (x : ByteArray × ByteArray) : (pIdB x).length = 8 + x.1.size + x.2.size := by
 unfold pIdB
 rw [zG, bBuf_len, bBuf_len, ← bsize_eq, ← bsize_eq]
 omega
theorem pAclB_len (x : AclT) : (pAclB x).length = 12 + x.2.1.size + x.2.2.size := by
 unfold pAclB
 rw [zG, bInt_len, pIdB_len]
 omega
theorem strCells_eq (L : List ByteArray) : strCells L = scells L := by
 unfold strCells scells
 induction L with
 | nil => rfl
 | cons x r ih => rw [List.flatMap_cons, List.map_cons, ih]; rfl
theorem zerP_acl : ((Tryd.prog.info? 74).bind (·.zero)).map (·.cells.size) = some 3 := by kernel_rfl
theorem zerP_id : ((Tryd.prog.info? 72).bind (·.zero)).map (·.cells.size) = some 2 := by kernel_rfl
theorem textFn_ne (w : World) : (binOp .eql 88 (.func (.func 43) #[] #[]) .nilFunc).run Tryd.prog w = .ok (.bool false) w := by kernel_rfl
theorem aclFn_ne (w : World) : (binOp .eql 106 (.func (.func 67) #[] #[]) .nilFunc).run Tryd.prog w = .ok (.bool false) w := by kernel_rfl
theorem idFn_ne (w : World) : (binOp .eql 105 (.func (.func 68) #[] #[]) .nilFunc).run Tryd.prog w = .ok (.bool false) w := by kernel_rfl
theorem putId_any (base g : Nat) (v : Value) (l : List UInt8) (x : ByteArray × ByteArray) (w : World) (h : Wr w base g v l) (hbase : base ≤ w.heap.size) (hsz : l.length + x.1.size + x.2.size + 16 ≤ 140737488355328) :
 Calls Tryd.prog 68 #[.pointer (some ⟨g, 0, none⟩), .agg #[.string x.1, .string x.2]] w fun e w' => e = .returned (.tuple #[]) ∧ ∃ v', Wrote base g v v' l (pIdB x) w w' := by
 obtain ⟨s0, s1⟩ := x
 unfold pIdB
 dsimp only at hsz ⊢
 obtain ⟨w1, hw1⟩ := xa w #[.string s0, .string s1] 72
 have hn1 := zW hw1
 have hb1 := zV hw1
 have c0 := yC hn1 0 (u := .string s0) rfl
 have c1 := yC hn1 1 (u := .string s1) rfl
 have HN1 := Hi hn1
 have hg := h.lt
 have hv : ∀ x, v.ownBlock = some x → x < w.heap.size := fun x hx => (h.2.lt x hx).2
 have H0 := Hi (h.later hb1)
 have HB1 := Hi hb1
 have hz := hb1.size
 have H00 := Hi h
 clear h hn1 hb1
 go_enter Tryd.func68, Tryd.ntmps68
 go_wp2_with (first
  | (go_at_call 43
     refine (wText_any base g v l s0 _ H0.out (by omega) (by omega)).mono ?_
     rintro e w2 ⟨rfl, v2, hp⟩
     have HP2 := Hi hp
     have d1 : w2.cell? ⟨w.heap.size, 1, none⟩ = some (.string s1) := (hp.2.1.cell HN1.out.lt (by
      intro hx
      rcases zH.1 hx with hx | hx
      · have : w.heap.size = g := hx
        omega
      · have := hv w.heap.size (by simpa using hx)
        omega)).trans c1
     have hz2 := hp.size
     clear hp c0 c1 H0)
  | (go_at_call 43
     refine (wText_any base g v2 _ s1 _ HP2.out.1 (by omega) (by rw [zG, bBuf_len, ← bsize_eq]; omega)).mono ?_
     rintro e w3 ⟨rfl, v3, hp⟩
     have HP3 := Hi (HP2.out.cat zT hp)
     clear hp))
 go_end0
 exact ⟨rfl, v3, HP3.out.from HB1.out⟩
theorem putAcl_any (base g : Nat) (v : Value) (l : List UInt8) (x : AclT) (w : World) (h : Wr w base g v l) (hbase : base ≤ w.heap.size) (hsz : l.length + x.2.1.size + x.2.2.size + 24 ≤ 140737488355328) :
 Calls Tryd.prog 67 #[.pointer (some ⟨g, 0, none⟩), .agg #[.int .i32 x.1, .string x.2.1, .string x.2.2]] w fun e w' => e = .returned (.tuple #[]) ∧ ∃ v', Wrote base g v v' l (pAclB x) w w' := by
 obtain ⟨z, s0, s1⟩ := x
 unfold pAclB
 dsimp only at hsz ⊢
 obtain ⟨w1, hw1⟩ := xa w #[.int .i32 z, .string s0, .string s1] 74
 have hn1 := zW hw1
 have hb1 := zV hw1
 have c0 := yC hn1 0 (u := .int .i32 z) rfl
 have HN1 := Hi hn1
 have hg := h.lt
 have hv : ∀ x, v.ownBlock = some x → x < w.heap.size := fun x hx => (h.2.lt x hx).2
 have H0 := Hi (h.later hb1)
 have HB1 := Hi hb1
 have hz := hb1.size
 clear h hn1 hb1
 go_enter Tryd.func67, Tryd.ntmps67
 go_wp2_with (first
  | (go_at_call 23
     refine (wInt_any base g v l z _ H0.out (by omega) (by omega)).mono ?_
     rintro e w2 ⟨rfl, v2, hp⟩
     have HP2 := Hi hp
     have hn2 : Blk w2 w.heap.size 74 #[.int .i32 z, .string s0, .string s1] := HN1.out.kp hp.2.1 (by
      intro hx
      rcases zH.1 hx with hx | hx
      · have : w.heap.size = g := hx
        omega
      · have := hv w.heap.size (by simpa using hx)
        omega)
     have HR2 : Hid (∀ j v, ([.string s0, .string s1] : List Value)[j]? = some v → w2.cell? ((⟨w.heap.size, 1, none⟩ : Addr).add j) = some v) := (fun j v hv => by
      rw [zN]
      rcases j with _ | _ | j
      · simp at hv; subst hv; exact yC hn2 1 rfl
      · simp at hv; subst hv; exact yC hn2 2 rfl
      · simp at hv)
     have hz2 := hp.size
     clear hp c0 H0 hn2)
  | (refine wpList_load_at (by rfl) 72 (.tmp 9) rfl ⟨w.heap.size, 1, none⟩ rfl [.string s0, .string s1] _ HR2.out zU72 rfl isz_72 ?_)
  | (go_at_call 68
     refine (putId_any base g v2 _ (s0, s1) _ HP2.out.1 (by omega) (by rw [zG, bInt_len]; dsimp only; omega)).mono ?_
     rintro e w3 ⟨rfl, v3, hp⟩
     have HP3 := Hi (HP2.out.cat zT hp)
     clear hp))
 go_end0
 exact ⟨rfl, v3, HP3.out.from HB1.out⟩

theorem pTexts_any (base g : Nat) (v : Value) (l : List UInt8) (A : Option Addr) (n c B : Nat) (L : List ByteArray) (w : World) (h : Wr w base g v l) (hr : Reads w B 1 A n (scells L)) (hB : B ≤ base) (hg : base ≤ g) (hbase : base ≤ w.heap.size) (hn : n ≤ 9223372036854775807) (hsz : l.length + (bTexts L).length + 8 ≤ 140737488355328) :
 Calls Tryd.prog 48 #[.pointer (some ⟨g, 0, none⟩), .slice A n c, .func (.func 43) #[] #[]] w fun e w' => e = .returned (.tuple #[]) ∧ ∃ v', Wrote base g v v' l (bInt n ++ bTexts L) w w' := by
 have hl : L.length = n := by have := hr.1; rw [scells_length] at this; omega
 subst hl
 have HL := Hi (h.2.lt)
 have H0 := Hi h
 have HR := Hi hr
 clear h hr
 have hnf := textFn_ne
 go_enter Tryd.func48, Tryd.ntmps48
 go_wp2_with (first
  | (go_at_call 65; refine (wCount_any base g v l _ _ H0.out hbase (by omega)).mono ?_; rintro e w1 ⟨rfl, v1, hp⟩; have HP := Hi hp; clear hp))
 go_loopw [16] (fun i wr => ∃ (k : Nat) (v2 : Value), k ≤ L.length ∧ i = .int .i64 k ∧ Wrote base g v v2 l (bInt L.length ++ bTexts (L.take k)) w wr) (fun i _ => L.length - (intOf i).toNat)
 case atStart => exact ⟨0, v1, Nat.zero_le _, rfl, by simpa [bTexts] using HP.out⟩
 case round =>
  clear HP
  obtain ⟨k, v2, hk, rfl, hW⟩ := hrel
  have hbw := hW.below (B := B) (by omega) (fun x hx => by have := (HL.out x hx).1; omega) (by omega)
  have hsz1 := hW.size
  have HW := Hi hW
  clear hW
  by_cases hlt : k < L.length
  · obtain ⟨ad, u, e, _, hu, hcell⟩ := (HR.out.below hbw).at_ hlt
    subst e
    have hget : u = .string (L[k]) := by
     simp only [scells, List.getElem?_map, List.getElem?_eq_getElem hlt, Option.map_some, Option.some.injEq] at hu
     exact hu.symm
    subst hget
    have hle : (bTexts (L.take k)).length + (bBuf L[k].data.toList).length ≤ (bTexts L).length := by
     have e : bTexts L = bTexts (L.take k) ++ bBuf L[k].data.toList ++ bTexts (L.drop (k + 1)) := by
      rw [← bTexts_snoc, ← List.take_succ_eq_append_getElem hlt]
      simp only [bTexts, ← List.flatMap_append, List.take_append_drop]
     rw [e, zG, zG]
     omega
    rw [bBuf_len, ← bsize_eq] at hle
    clear hu hbw
    go_wp2_with (go_at_call 43; refine (wText_any base g v2 _ L[k] wr HW.out.1 (by omega) (by rw [zG, zG, bInt_len]; omega)).mono ?_; rintro e w2 ⟨rfl, v3, hp⟩; have HP := Hi (HW.out.cat zT hp); clear hp)
    go_roundw
    case rel => exact ⟨k + 1, v3, by omega, by go_num, by rw [List.take_succ_eq_append_getElem hlt, bTexts_snoc, ← zL]; exact HP.out⟩
    case measure => simp [intOf]; omega
  · have hkl : k = L.length := by omega
    have HK := Hi hkl
    clear hkl hbw
    go_wp2
    go_end0
    have hW := HW.out
    rw [HK.out, List.take_of_length_le zR] at hW
    exact ⟨rfl, v2, hW⟩

theorem pAclsB_snoc (L : List AclT) (x : AclT) : pAclsB (L ++ [x]) = pAclsB L ++ pAclB x := by simp [pAclsB]
theorem pAcls_any (base g : Nat) (v : Value) (l : List UInt8) (A : Option Addr) (n c B : Nat) (L : List AclT) (w : World) (h : Wr w base g v l) (hr : Reads w B 3 A n (aclCells L)) (hB : B ≤ base) (hg : base ≤ g) (hbase : base ≤ w.heap.size) (hn : n ≤ 9223372036854775807) (hsz : l.length + (pAclsB L).length + 40 ≤ 140737488355328) :
 Calls Tryd.prog 66 #[.pointer (some ⟨g, 0, none⟩), .slice A n c, .func (.func 67) #[] #[]] w fun e w' => e = .returned (.tuple #[]) ∧ ∃ v', Wrote base g v v' l (bInt n ++ pAclsB L) w w' := by
 have hl : L.length = n := by have := hr.1; rw [aclCells_length] at this; omega
 subst hl
 have HL := Hi (h.2.lt)
 have H0 := Hi h
 have HR := Hi hr
 clear h hr
 have hnf := aclFn_ne
 go_enter Tryd.func66, Tryd.ntmps66
 go_wp2_with (first
  | (go_at_call 65; refine (wCount_any base g v l _ _ H0.out hbase (by omega)).mono ?_; rintro e w1 ⟨rfl, v1, hp⟩; have HP := Hi hp; clear hp))
 go_loopw [16] (fun i wr => ∃ (k : Nat) (v2 : Value), k ≤ L.length ∧ i = .int .i64 k ∧ Wrote base g v v2 l (bInt L.length ++ pAclsB (L.take k)) w wr) (fun i _ => L.length - (intOf i).toNat)
 case atStart => exact ⟨0, v1, Nat.zero_le _, rfl, by simpa [pAclsB] using HP.out⟩
 case round =>
  clear HP
  obtain ⟨k, v2, hk, rfl, hW⟩ := hrel
  have hbw := hW.below (B := B) (by omega) (fun x hx => by have := (HL.out x hx).1; omega) (by omega)
  have hsz1 := hW.size
  have HW := Hi hW
  clear hW
  by_cases hlt : k < L.length
  · obtain ⟨b, off, hA, _, hx⟩ := (HR.out.below hbw).plain (by omega) (by omega)
    have hle : (pAclsB (L.take k)).length + (pAclB L[k]).length ≤ (pAclsB L).length := by
     have e : pAclsB L = pAclsB (L.take k) ++ pAclB L[k] ++ pAclsB (L.drop (k + 1)) := by
      rw [← pAclsB_snoc, ← List.take_succ_eq_append_getElem hlt]
      simp only [pAclsB, ← List.flatMap_append, List.take_append_drop]
     rw [e, zG, zG]
     omega
    rw [pAclB_len] at hle
    have HROW : Hid (∀ j v, ([.int .i32 L[k].1, .string L[k].2.1, .string L[k].2.2] : List Value)[j]? = some v → wr.cell? ((⟨b, off + k * 3, none⟩ : Addr).add j) = some v) := by
     obtain ⟨g0, g1, g2⟩ := aclCells_get L k hlt
     have x0 := hx _ _ g0
     have x1 := hx _ _ g1
     have x2 := hx _ _ g2
     exact fun j v hv => by
      rw [zN]
      rcases j with _ | _ | _ | j
      · simp at hv; subst hv; simpa using x0
      · simp at hv; subst hv; simpa [Nat.add_assoc] using x1
      · simp at hv; subst hv; simpa [Nat.add_assoc] using x2
      · simp at hv
    obtain ⟨w2, hw2⟩ := xa wr #[.int .i32 L[k].1, .string L[k].2.1, .string L[k].2.2] 74
    have HN2 := Hi (zW hw2)
    have hb2 := zV hw2
    have HW2 := Hi (HW.out.later hb2)
    have hz2 := hb2.size
    have HSN : Hid (pAclsB (L.take (k + 1)) = pAclsB (L.take k) ++ pAclB L[k]) := by unfold Hid; rw [List.take_succ_eq_append_getElem hlt, pAclsB_snoc]
    subst hA
    clear hx hbw hb2
    go_wp2_with (first
     | (refine wpList_load_at (by rfl) 74 (.tmp 18) rfl ⟨b, off + k * 3, none⟩ rfl [.int .i32 L[k].1, .string L[k].2.1, .string L[k].2.2] _ HROW.out zU74 rfl isz_74 ?_)
     | (refine wpList_newrow rfl rfl 74 rfl 7 rfl (.tmp 19) rfl rfl #[.int .i32 L[k].1, .string L[k].2.1, .string L[k].2.2] (fun _ => rfl) (show 7 < 25 by decide) zerP_acl isz_74 (by simp [Value.oneCell']) ?_
        rw [hw2])
     | (refine wpList_load_row rfl 74 (.tmp 7) rfl wr.heap.size rfl 74 _ _ _ HN2.out zU74 rfl isz_74 ?_)
     | (go_at_call 67
        refine (putAcl_any base g v2 _ L[k] w2 HW2.out.1 (by omega) (by rw [zG, zG, bInt_len]; omega)).mono ?_
        rintro e w3 ⟨rfl, v3, hp⟩
        have HP := Hi (HW2.out.cat zT hp)
        clear hp))
    go_roundw
    case rel => exact ⟨k + 1, v3, by omega, by go_num, by rw [HSN.out, ← zL]; exact HP.out⟩
    case measure => simp [intOf]; omega
  · have hkl : k = L.length := by omega
    have HK := Hi hkl
    clear hkl hbw
    go_wp2
    go_end0
    have hW := HW.out
    rw [HK.out, List.take_of_length_le zR] at hW
    exact ⟨rfl, v2, hW⟩

theorem pIdsB_snoc (L : List (ByteArray × ByteArray)) (x : (ByteArray × ByteArray)) : pIdsB (L ++ [x]) = pIdsB L ++ pIdB x := by simp [pIdsB]
theorem pIds_any (base g : Nat) (v : Value) (l : List UInt8) (A : Option Addr) (n c B : Nat) (L : List (ByteArray × ByteArray)) (w : World) (h : Wr w base g v l) (hr : Reads w B 2 A n (idCells L)) (hB : B ≤ base) (hg : base ≤ g) (hbase : base ≤ w.heap.size) (hn : n ≤ 9223372036854775807) (hsz : l.length + (pIdsB L).length + 40 ≤ 140737488355328) :
 Calls Tryd.prog 69 #[.pointer (some ⟨g, 0, none⟩), .slice A n c, .func (.func 68) #[] #[]] w fun e w' => e = .returned (.tuple #[]) ∧ ∃ v', Wrote base g v v' l (bInt n ++ pIdsB L) w w' := by
 have hl : L.length = n := by have := hr.1; rw [idCells_length] at this; omega
 subst hl
 have HL := Hi (h.2.lt)
 have H0 := Hi h
 have HR := Hi hr
 clear h hr
 have hnf := idFn_ne
 go_enter Tryd.func69, Tryd.ntmps69
 go_wp2_with (first
  | (go_at_call 65; refine (wCount_any base g v l _ _ H0.out hbase (by omega)).mono ?_; rintro e w1 ⟨rfl, v1, hp⟩; have HP := Hi hp; clear hp))
 go_loopw [16] (fun i wr => ∃ (k : Nat) (v2 : Value), k ≤ L.length ∧ i = .int .i64 k ∧ Wrote base g v v2 l (bInt L.length ++ pIdsB (L.take k)) w wr) (fun i _ => L.length - (intOf i).toNat)
 case atStart => exact ⟨0, v1, Nat.zero_le _, rfl, by simpa [pIdsB] using HP.out⟩
 case round =>
  clear HP
  obtain ⟨k, v2, hk, rfl, hW⟩ := hrel
  have hbw := hW.below (B := B) (by omega) (fun x hx => by have := (HL.out x hx).1; omega) (by omega)
  have hsz1 := hW.size
  have HW := Hi hW
  clear hW
  by_cases hlt : k < L.length
  · obtain ⟨b, off, hA, _, hx⟩ := (HR.out.below hbw).plain (by omega) (by omega)
    have hle : (pIdsB (L.take k)).length + (pIdB L[k]).length ≤ (pIdsB L).length := by
     have e : pIdsB L = pIdsB (L.take k) ++ pIdB L[k] ++ pIdsB (L.drop (k + 1)) := by
      rw [← pIdsB_snoc, ← List.take_succ_eq_append_getElem hlt]
      simp only [pIdsB, ← List.flatMap_append, List.take_append_drop]
     rw [e, zG, zG]
     omega
    rw [pIdB_len] at hle
    have HROW : Hid (∀ j v, ([.string L[k].1, .string L[k].2] : List Value)[j]? = some v → wr.cell? ((⟨b, off + k * 2, none⟩ : Addr).add j) = some v) := by
     obtain ⟨g0, g1⟩ := idCells_get L k hlt
     have x0 := hx _ _ g0
     have x1 := hx _ _ g1
     exact fun j v hv => by
      rw [zN]
      rcases j with _ | _ | j
      · simp at hv; subst hv; simpa using x0
      · simp at hv; subst hv; simpa [Nat.add_assoc] using x1
      · simp at hv
    obtain ⟨w2, hw2⟩ := xa wr #[.string L[k].1, .string L[k].2] 72
    have HN2 := Hi (zW hw2)
    have hb2 := zV hw2
    have HW2 := Hi (HW.out.later hb2)
    have hz2 := hb2.size
    have HSN : Hid (pIdsB (L.take (k + 1)) = pIdsB (L.take k) ++ pIdB L[k]) := by unfold Hid; rw [List.take_succ_eq_append_getElem hlt, pIdsB_snoc]
    subst hA
    clear hx hbw hb2
    go_wp2_with (first
     | (refine wpList_load_at (by rfl) 72 (.tmp 18) rfl ⟨b, off + k * 2, none⟩ rfl [.string L[k].1, .string L[k].2] _ HROW.out zU72 rfl isz_72 ?_)
     | (refine wpList_newrow rfl rfl 72 rfl 7 rfl (.tmp 19) rfl rfl #[.string L[k].1, .string L[k].2] (fun _ => rfl) (show 7 < 25 by decide) zerP_id isz_72 (by simp [Value.oneCell']) ?_
        rw [hw2])
     | (refine wpList_load_row rfl 72 (.tmp 7) rfl wr.heap.size rfl 72 _ _ _ HN2.out zU72 rfl isz_72 ?_)
     | (go_at_call 68
        refine (putId_any base g v2 _ L[k] w2 HW2.out.1 (by omega) (by rw [zG, zG, bInt_len]; omega)).mono ?_
        rintro e w3 ⟨rfl, v3, hp⟩
        have HP := Hi (HW2.out.cat zT hp)
        clear hp))
    go_roundw
    case rel => exact ⟨k + 1, v3, by omega, by go_num, by rw [HSN.out, ← zL]; exact HP.out⟩
    case measure => simp [intOf]; omega
  · have hkl : k = L.length := by omega
    have HK := Hi hkl
    clear hkl hbw
    go_wp2
    go_end0
    have hW := HW.out
    rw [HK.out, List.take_of_length_le zR] at hW
    exact ⟨rfl, v2, hW⟩

theorem aclPut_any (base g : Nat) (v : Value) (l : List UInt8) (A : Option Addr) (n c B : Nat) (L : List AclT) (w : World) (h : Wr w base g v l) (hr : Reads w B 3 A n (aclCells L)) (hB : B ≤ base) (hg : base ≤ g) (hbase : base ≤ w.heap.size) (hn : n ≤ 9223372036854775807) (hsz : l.length + (pAclsB L).length + 40 ≤ 140737488355328) :
 Calls Tryd.prog 45 #[.pointer (some ⟨g, 0, none⟩), .slice A n c] w fun e w' => e = .returned (.tuple #[]) ∧ ∃ v', Wrote base g v v' l (bInt n ++ pAclsB L) w w' := by
 have H := Hi (pAcls_any base g v l A n c B L w h hr hB hg hbase hn hsz)
 clear h hr
 go_enter Tryd.func45, Tryd.ntmps45
 go_wp2_with (go_at_call 66; refine (H.out).mono ?_; rintro e w2 ⟨rfl, hb⟩; have HB := Hi hb; clear hb)
 go_end0
 exact ⟨rfl, HB.out⟩
theorem aclPutIds_any (base g : Nat) (v : Value) (l : List UInt8) (A : Option Addr) (n c B : Nat) (L : List (ByteArray × ByteArray)) (w : World) (h : Wr w base g v l) (hr : Reads w B 2 A n (idCells L)) (hB : B ≤ base) (hg : base ≤ g) (hbase : base ≤ w.heap.size) (hn : n ≤ 9223372036854775807) (hsz : l.length + (pIdsB L).length + 40 ≤ 140737488355328) :
 Calls Tryd.prog 49 #[.pointer (some ⟨g, 0, none⟩), .slice A n c] w fun e w' => e = .returned (.tuple #[]) ∧ ∃ v', Wrote base g v v' l (bInt n ++ pIdsB L) w w' := by
 have H := Hi (pIds_any base g v l A n c B L w h hr hB hg hbase hn hsz)
 clear h hr
 go_enter Tryd.func49, Tryd.ntmps49
 go_wp2_with (go_at_call 69; refine (H.out).mono ?_; rintro e w2 ⟨rfl, hb⟩; have HB := Hi hb; clear hb)
 go_end0
 exact ⟨rfl, HB.out⟩
theorem header_any (base g : Nat) (v : Value) (l : List UInt8) (t : Int) (b : Bool) (w : World) (h : Wr w base g v l) (hbase : base ≤ w.heap.size) (hsz : l.length + 24 ≤ 140737488355328) :
 Calls Tryd.prog 50 #[.pointer (some ⟨g, 0, none⟩), .int .i32 t, .bool b] w fun e w' => e = .returned (.tuple #[]) ∧ ∃ v', Wrote base g v v' l (bInt t ++ bBool b ++ bInt (-1)) w w' := by
 have H0 := Hi h
 clear h
 go_enter Tryd.func50, Tryd.ntmps50
 go_wp2_with (first
  | (go_at_call 23
     refine (wInt_any base g v l t _ H0.out (by omega) (by omega)).mono ?_
     rintro e w1 ⟨rfl, v1, hp⟩
     have HP1 := Hi hp
     have hz1 := hp.size
     clear hp H0)
  | (go_at_call 47
     refine (wBool_any base g v1 _ b _ HP1.out.1 (by omega) (by rw [zG, bInt_len]; omega)).mono ?_
     rintro e w2 ⟨rfl, v2, hp⟩
     have HP2 := Hi (HP1.out.cat zT hp)
     have hz2 := hp.size
     clear hp HP1)
  | (go_at_call 23
     refine (wInt_any base g v2 _ (-1) _ HP2.out.1 (by omega) (by simp only [zG, bInt_len, bBool, zJ]; omega)).mono ?_
     rintro e w3 ⟨rfl, v3, hp⟩
     have HP3 := Hi (HP2.out.cat zT hp)
     clear hp HP2))
 go_end0
 exact ⟨rfl, v3, HP3.out⟩

theorem _root_.Go.Lib.Utf8Tabs.kp {w w' : World} {X : List Nat} {g h : Nat} (ht : Lib.Utf8Tabs g h w) (hk : Kp X w w') (hX : g ∉ X ∧ h ∉ X) (hB : g < w.heap.size ∧ h < w.heap.size) : Lib.Utf8Tabs g h w' := by
 refine ⟨fun c hc => ?_, fun i hi => ?_⟩
 · rw [hk.cell hB.1 hX.1]
   exact ht.1 c hc
 · rw [hk.cell hB.2 hX.2, hk.cell hB.2 hX.2]
   exact ht.2 i hi

structure Rdr (w : World) (B : Nat → Prop) (R : Nat) (A : Option Addr) (c : Nat) (l : List UInt8) (p : Nat) : Prop where
 blk : Blk w R 116 #[.slice A l.length c, .int .i64 p, .bool false]
 reads : Reads w w.heap.size 1 A l.length (bcells l)
 cap : l.length ≤ c
 here : p ≤ l.length
 old : ∀ x, B x → x < R
 len : l.length ≤ 140737488355328
 nil : A = none → c = 0
 tab : Lib.Utf8Tabs 0 1 w
 gl : B 0 ∧ B 1
 glt : 0 < w.heap.size ∧ 1 < w.heap.size
 mine : 0 < l.length → ∀ ad, A = some ad → B ad.block

section
variable {w w' : World} {B : Nat → Prop} {R c p q : Nat} {A : Option Addr} {l : List UInt8} {X : List Nat}
theorem Rdr.new (h : Rdr w B R A c l p) {y : Nat} (hy : R ≤ y) : ¬ B y := fun hb => by have := h.old _ hb; omega
theorem Rdr.lt (h : Rdr w B R A c l p) : R < w.heap.size := h.blk.lt
theorem reads_off {n size : Nat} {xs : List Value} (h : Reads w w.heap.size size A n xs) (hk : Kp X w w') (hX : 0 < n → ∀ ad, A = some ad → ad.block ∉ X) : Reads w' w'.heap.size size A n xs :=
 ⟨h.1, fun hn => by
   obtain ⟨ad, e, hb, hc⟩ := h.2 hn
   refine ⟨ad, e, Nat.lt_of_lt_of_le hb hk.size, fun j u hu => ?_⟩
   rw [hk.cell (by rw [block_of_add]; exact hb) (by rw [block_of_add]; exact hX hn ad e)]
   exact hc j u hu⟩
theorem Rdr.kp (h : Rdr w B R A c l p) (hk : Kp X w w') (hR : R ∉ X) (hX : ∀ x ∈ X, ¬ B x) : Rdr w' B R A c l p :=
 ⟨h.blk.kp hk hR, reads_off h.reads hk (fun hn ad e hx => hX _ hx (h.mine hn ad e)), h.cap, h.here, h.old, h.len, h.nil, h.tab.kp hk ⟨fun hx => hX _ hx h.gl.1, fun hx => hX _ hx h.gl.2⟩ h.glt, h.gl, ⟨Nat.lt_of_lt_of_le h.glt.1 hk.size, Nat.lt_of_lt_of_le h.glt.2 hk.size⟩, h.mine⟩
theorem Rdr.later (h : Rdr w B R A c l p) (hb : Below w.heap.size w w') : Rdr w' B R A c l p := h.kp (Kp.of_below (X := []) hb) (fun h => by cases h) (fun _ h => by cases h)
theorem Rdr.move (h : Rdr w B R A c l p) (hq : q ≤ l.length) : Rdr (w.setCell ⟨R, 1, none⟩ (.int .i64 q)) B R A c l q := by
 have hk : Kp [R] w (w.setCell ⟨R, 1, none⟩ (.int .i64 q)) := Kp.setCell ⟨R, 1, none⟩ _
 have hX : ∀ x ∈ [R], ¬ B x := fun x hx hb => by rw [List.mem_singleton.1 hx] at hb; exact Nat.lt_irrefl _ (h.old _ hb)
 exact ⟨h.blk.set_ 1 _, reads_off h.reads hk (fun hn ad e hx => hX _ hx (h.mine hn ad e)), h.cap, hq, h.old, h.len, h.nil, h.tab.kp hk ⟨fun hx => hX _ hx h.gl.1, fun hx => hX _ hx h.gl.2⟩ h.glt, h.gl, ⟨Nat.lt_of_lt_of_le h.glt.1 hk.size, Nat.lt_of_lt_of_le h.glt.2 hk.size⟩, h.mine⟩
theorem Rdr.cells (h : Rdr w B R A c l p) : w.cell? ⟨R, 0, none⟩ = some (.slice A l.length c) ∧ w.cell? ⟨R, 1, none⟩ = some (.int .i64 p) ∧ w.cell? ⟨R, 2, none⟩ = some (.bool false) ∧ w.frozen? ⟨R, 1, none⟩ = false := by
 refine ⟨?_, ?_, ?_, h.blk.frozen 1⟩
 · rw [h.blk.cell 0]; rfl
 · rw [h.blk.cell 1]; rfl
 · rw [h.blk.cell 2]; rfl
end

def fails (R : Nat) (er : Int) : List PanicEntry := [{ v := .iface 118 (.agg #[.pointer (some ⟨R, 0, none⟩), .int .i64 er]), recovered := false }]

theorem done_any (B : Nat → Prop) (R c p : Nat) (A : Option Addr) (l : List UInt8) (w : World) (h : Rdr w B R A c l p) :
 Calls Tryd.prog 55 #[.pointer (some ⟨R, 0, none⟩)] w fun e w' => e = .returned (.bool false) ∧ w = w' := by
 obtain ⟨c0, c1, c2, f1⟩ := h.cells
 clear h
 go_enter Tryd.func55, Tryd.ntmps55
 go_wp2
 go_ret
 exact ⟨rfl, rfl⟩

theorem fail_any (B : Nat → Prop) (R c p : Nat) (A : Option Addr) (l : List UInt8) (er : Int) (he : (er != 0) = true) (w : World) (h : Rdr w B R A c l p) :
 Calls Tryd.prog 83 #[.pointer (some ⟨R, 0, none⟩), .int .i64 er] w fun e w' => e = .panicked (fails R er) ∧ w = w' := by
 have H := Hi h
 clear h
 go_enter Tryd.func83, Tryd.ntmps83
 go_wp2_with (go_at_call 55; refine (done_any B R c p A l w H.out).mono ?_; rintro e w2 ⟨rfl, rfl⟩)
 exact ⟨rfl, rfl, rfl⟩

theorem left_any (B : Nat → Prop) (R c p : Nat) (A : Option Addr) (l : List UInt8) (w : World) (h : Rdr w B R A c l p) :
 Calls Tryd.prog 82 #[.pointer (some ⟨R, 0, none⟩)] w fun e w' => e = .returned (.int .i64 ((l.length - p : Nat) : Int)) ∧ ∃ n, w' = w.drewN n := by
 have H := Hi h
 obtain ⟨c0, c1, c2, f1⟩ := h.cells
 have hp := h.here
 have hl := h.len
 have e : ((l.length - p : Nat) : Int) = (l.length : Int) - p := by omega
 rw [e]
 clear h e
 go_enter Tryd.func82, Tryd.ntmps82
 go_wp2_with (go_at_call 55; refine (done_any B R c p A l w H.out).mono ?_; rintro e w2 ⟨rfl, rfl⟩)
 go_quiet (fail)
 go_wp2
 go_ret
 exact ⟨rfl, _, rfl⟩

theorem reads_zero (w : World) (B : Nat) (A : Option Addr) : Reads w B 1 A 0 [] := ⟨by simp, fun h => absurd h (by omega)⟩
theorem reads_part {w : World} {B n p k : Nat} {A : Option Addr} {l : List UInt8} (h : Reads w B 1 A n (bcells l)) (hp : p + k ≤ n) : Reads w B 1 (A.map fun x => x.add p) k (bcells ((l.drop p).take k)) := by
 have hl : l.length = n := by have := h.1; rw [bcells_length] at this; omega
 refine ⟨by rw [bcells_length, List.length_take, List.length_drop]; omega, fun hk => ?_⟩
 obtain ⟨ad, rfl, hb, hc⟩ := h.2 (by omega)
 refine ⟨ad.add p, rfl, by rw [block_of_add]; exact hb, fun j u hu => ?_⟩
 rw [add_of_add]
 refine hc _ u ?_
 rw [bcells_get] at hu ⊢
 rw [List.getElem?_take] at hu
 split at hu
 · rwa [List.getElem?_drop] at hu
 · cases hu

theorem next_ok (B : Nat → Prop) (R c p : Nat) (A : Option Addr) (l : List UInt8) (k : Int) (h0 : 0 ≤ k) (w : World) (h : Rdr w B R A c l p) (hk : p + k ≤ l.length) :
 Calls Tryd.prog 57 #[.pointer (some ⟨R, 0, none⟩), .int .i64 k] w fun e w' => (∃ A' c', e = .returned (.slice A' k.toNat c') ∧ Reads w' w'.heap.size 1 A' k.toNat (bcells ((l.drop p).take k.toNat)) ∧ (A' = none → k.toNat = 0 ∧ c' = 0) ∧ k.toNat ≤ c') ∧ Kp [R] w w' ∧ Rdr w' B R A c l (p + k.toNat) := by
 obtain ⟨k, rfl⟩ := Int.eq_ofNat_of_zero_le h0
 rw [Int.toNat_natCast]
 have H := Hi h
 obtain ⟨c0, c1, c2, f1⟩ := h.cells
 have hp := h.here
 have hl := h.len
 have hc := h.cap
 clear h h0
 go_enter Tryd.func57, Tryd.ntmps57
 go_wp2_with (go_at_call 82; refine (left_any B R c p A l w H.out).mono ?_; rintro e w2 ⟨rfl, n0, rfl⟩)
 go_quiet (fail)
 go_wp2
 · obtain rfl : c = p := by assumption
   have hk0 : k = 0 := by omega
   go_ret
   exact ⟨⟨A, 0, rfl, by rw [hk0]; simpa [bcells] using reads_zero _ _ _, fun _ => by simp [hk0], by simp [hk0]⟩, (Kp.drewN (n0 + nq)).to (Kp.setCell _ _) (fun _ h _ => h) (fun _ h _ => by simpa using h), (H.out.later (below_drewN' zT (n0 + nq))).move (q := c + k) (by omega)⟩
 · have hcp : ¬c = p := by assumption
   go_ret
   exact ⟨⟨_, _, rfl, reads_part ((H.out.later (below_drewN' zT (n0 + nq))).move (q := p + k) (by omega)).reads (by omega), (fun hA => by
    cases A with
    | none => have := H.out.nil rfl; omega
    | some ad => cases hA), by omega⟩, (Kp.drewN (n0 + nq)).to (Kp.setCell _ _) (fun _ h _ => h) (fun _ h _ => by simpa using h), (H.out.later (below_drewN' zT (n0 + nq))).move (by omega)⟩

theorem next_no (B : Nat → Prop) (R c p : Nat) (A : Option Addr) (l : List UInt8) (k : Int) (w : World) (h : Rdr w B R A c l p) (hk : (l.length : Int) < p + k) :
 Calls Tryd.prog 57 #[.pointer (some ⟨R, 0, none⟩), .int .i64 k] w fun e w' => e = .panicked (fails R 20) ∧ Kp [R] w w' ∧ Rdr w' B R A c l p := by
 have H := Hi h
 obtain ⟨c0, c1, c2, f1⟩ := h.cells
 have hp := h.here
 have hl := h.len
 have hc := h.cap
 have e : ((l.length - p : Nat) : Int) = (l.length : Int) - p := by omega
 have HE := Hi e
 clear h e
 go_enter Tryd.func57, Tryd.ntmps57
 go_wp2_with (first
  | (go_at_call 82; refine (left_any B R c p A l w H.out).mono ?_; rintro e w2 ⟨rfl, n0, rfl⟩; rw [HE.out])
  | (go_at_call 83; refine (fail_any B R c p A l 20 rfl _ (H.out.later (below_drewN' zT n0))).mono ?_; rintro e w2 ⟨rfl, rfl⟩))
 exact ⟨rfl, rfl, Kp.drewN n0, H.out.later (below_drewN' zT n0)⟩

theorem shl8_or (a b : Nat) (ha : a < 72057594037927936) (hb : b < 256) : bits BinOp.or IntKind.u64 (IntKind.u64.wrap ((a : Int) * 256)) (IntKind.u64.wrap (b : Int)) = ((a * 256 + b : Nat) : Int) := by
 rw [IntKind.wrap_u64, IntKind.wrap_u64]
 have e1 : (a : Int) * 256 % 18446744073709551616 = ((a * 256 : Nat) : Int) := by omega
 have e2 : (b : Int) % 18446744073709551616 = (b : Int) := by omega
 rw [e1, e2, u64_or_nat _ _ (by omega) (by omega)]
 have h := Nat.shiftLeft_add_eq_or_of_lt (i := 8) (b := b) (by omega) a
 rw [Nat.shiftLeft_eq] at h
 rw [← h]

theorem rnumber_any (A : Option Addr) (n c B : Nat) (l : List UInt8) (w : World) (hr : Reads w B 1 A n (bcells l)) (hn : n ≤ 8) :
 Calls Tryd.prog 56 #[.slice A n c] w fun e w' => e = .returned (.int .u64 (beNum l)) ∧ w = w' := by
 have hl : l.length = n := by have := hr.1; rw [bcells_length] at this; omega
 subst hl
 have HR := Hi hr
 clear hr
 go_enter Tryd.func56, Tryd.ntmps56
 go_wp2
 go_loop [3, 8] (fun m i => ∃ k : Nat, k ≤ l.length ∧ i = .int .i64 k ∧ m = .int .u64 (beNum (l.take k))) (fun _ i => l.length - (intOf i).toNat)
 case atStart => exact ⟨0, Nat.zero_le _, rfl, rfl⟩
 case round =>
  obtain ⟨k, hk, rfl, rfl⟩ := hrel
  by_cases hlt : k < l.length
  · obtain ⟨ad, u, rfl, _, hu, hcell⟩ := HR.out.at_ hlt
    have hget : u = .int .u8 (l[k].toNat : Int) := by
     simp only [bcells_get, List.getElem?_eq_getElem hlt, Option.map_some, Option.some.injEq] at hu
     exact hu.symm
    subst hget
    clear hu
    have HE : Hid (bits BinOp.or IntKind.u64 (IntKind.u64.wrap (↑(beNum (List.take k l)) * 256)) (IntKind.u64.wrap ↑l[k].toNat) = ((beNum (l.take (k + 1)) : Nat) : Int)) := by
     show _ = _
     rw [List.take_succ_eq_append_getElem hlt, beNum_snoc]
     refine shl8_or _ _ ?_ l[k].toNat_lt
     have h1 := beNum_lt (l.take k)
     have h2 : (l.take k).length ≤ 7 := by rw [List.length_take]; omega
     have h3 : 256 ^ (l.take k).length ≤ 256 ^ 7 := Nat.pow_le_pow_right (by decide) h2
     have h4 : (256 : Nat) ^ 7 = 72057594037927936 := by decide
     omega
    go_wp2
    go_round
    case rel => exact ⟨k + 1, by omega, by go_num, by rw [HE.out]⟩
    case measure => simp [intOf]; omega
  · have hkl : k = l.length := by omega
    have HK := Hi hkl
    clear hkl
    go_wp2
    go_ret
    exact ⟨congrArg (fun q : List UInt8 => Ending.returned (.int .u64 (beNum q : Int))) (by rw [HK.out, List.take_of_length_le zR]), rfl⟩

def Rg (α : Type) : Type := List UInt8 → Nat → (α × Nat) ⊕ (Int × Nat)
def Rg.ret {α : Type} (x : α) : Rg α := fun _ p => .inl (x, p)
def Rg.bind {α β : Type} (f : Rg α) (g : α → Rg β) : Rg β := fun l p =>
 match f l p with
 | .inl (x, q) => g x l q
 | .inr e => .inr e
def Rg.map {α β : Type} (f : α → β) (g : Rg α) : Rg β := fun l p =>
 match g l p with
 | .inl (x, q) => .inl (f x, q)
 | .inr e => .inr e

def gNext (k : Nat) : Rg (List UInt8) := fun l p => if p + k ≤ l.length then .inl ((l.drop p).take k, p + k) else .inr (20, p)
def gNum (k : Nat) : Rg Nat := (gNext k).map beNum
def gBool : Rg Bool := fun l p =>
 match gNum 1 l p with
 | .inl (n, q) => if 1 < n then .inr (22, p) else .inl (n == 1, q)
 | .inr e => .inr e
def gInt : Rg Int := (gNum 4).map fun n : Nat => wrap32 n
def gLong : Rg Int := (gNum 8).map fun n : Nat => wrap64 n
def gSize (most : Int) : Rg Nat := fun l p =>
 match gInt l p with
 | .inl (n, q) => if n < 0 ∨ most < n then .inr (22, p) else .inl (n.toNat, q)
 | .inr e => .inr e
def gBuf (most : Int) : Rg (List UInt8) := fun l p =>
 match gSize most l p with
 | .inl (n, q) => if q + n ≤ l.length then .inl ((l.drop q).take n, q + n) else .inr (20, p)
 | .inr e => .inr e
def gText (most : Int) : Rg (List UInt8) := fun l p =>
 match gBuf most l p with
 | .inl (b, q) => if Lib.validD b = true then .inl (b, q) else .inr (22, p)
 | .inr e => .inr e
def gCount (most least : Int) : Rg Nat := fun l p =>
 match gSize most l p with
 | .inl (n, q) => if 1 ≤ least ∧ ((l.length - q : Nat) : Int) / least < n then .inr (20, p) else .inl (n, q)
 | .inr e => .inr e
def gMany {α : Type} (g : Rg α) : Nat → Rg (List α)
 | 0 => Rg.ret []
 | n + 1 => g.bind fun x => (gMany g n).map fun r => x :: r
def gGet {α : Type} (most least : Int) (g : Rg α) : Rg (List α) := (gCount most least).bind fun n => gMany g n

def Rg.Ok {α : Type} (g : Rg α) : Prop := ∀ l p, p ≤ l.length → match g l p with
 | .inl (_, q) => p ≤ q ∧ q ≤ l.length
 | .inr (e, q) => p ≤ q ∧ q ≤ l.length ∧ e ≠ 0

section
variable {l : List UInt8} {p q k n : Nat} {x : List UInt8} {most least z e : Int}
theorem gNext_inl (h : gNext k l p = .inl (x, q)) : p + k ≤ l.length ∧ x = (l.drop p).take k ∧ q = p + k ∧ x.length = k := by
 unfold gNext at h
 split at h
 · simp only [Sum.inl.injEq, Prod.mk.injEq] at h
   obtain ⟨rfl, rfl⟩ := h
   exact ⟨by assumption, rfl, rfl, by simp; omega⟩
 · cases h
theorem gNum_inl (h : gNum k l p = .inl (n, q)) : p + k ≤ l.length ∧ n = beNum ((l.drop p).take k) ∧ q = p + k ∧ n < 256 ^ k := by
 unfold gNum Rg.map at h
 split at h
 · rename_i y r hy
   simp only [Sum.inl.injEq, Prod.mk.injEq] at h
   obtain ⟨rfl, rfl⟩ := h
   obtain ⟨h1, rfl, rfl, h4⟩ := gNext_inl hy
   have := beNum_lt ((l.drop p).take k)
   rw [h4] at this
   exact ⟨h1, rfl, rfl, this⟩
 · cases h
theorem gInt_inl (h : gInt l p = .inl (z, q)) : p + 4 ≤ l.length ∧ z = wrap32 (beNum ((l.drop p).take 4)) ∧ q = p + 4 := by
 unfold gInt Rg.map at h
 split at h
 · rename_i y r hy
   simp only [Sum.inl.injEq, Prod.mk.injEq] at h
   obtain ⟨rfl, rfl⟩ := h
   obtain ⟨h1, rfl, rfl, _⟩ := gNum_inl hy
   exact ⟨h1, rfl, rfl⟩
 · cases h
theorem wrap32_bd (z : Int) : -2147483648 ≤ wrap32 z ∧ wrap32 z ≤ 2147483647 := by unfold wrap32; omega
theorem gSize_inl (h : gSize most l p = .inl (n, q)) : p + 4 ≤ l.length ∧ q = p + 4 ∧ (n : Int) ≤ most ∧ n ≤ 2147483647 ∧ gInt l p = .inl ((n : Int), q) := by
 unfold gSize at h
 split at h
 · rename_i y r hy
   obtain ⟨h1, h2, rfl⟩ := gInt_inl hy
   split at h
   · cases h
   · simp only [Sum.inl.injEq, Prod.mk.injEq] at h
     obtain ⟨rfl, rfl⟩ := h
     have hb := wrap32_bd (beNum ((l.drop p).take 4))
     rw [← h2] at hb
     have e : ((y.toNat : Nat) : Int) = y := by omega
     rw [e]
     exact ⟨h1, rfl, by omega, by omega, hy⟩
 · cases h
end

def Rend {α : Type} (B : Nat → Prop) (R c : Nat) (A : Option Addr) (l : List UInt8) (val : α → Value → World → Prop) (r : (α × Nat) ⊕ (Int × Nat)) (w : World) (e : Ending) (w' : World) : Prop :=
 match r with
 | .inl (x, q) => (∃ v, e = .returned v ∧ val x v w') ∧ Kp [R] w w' ∧ Rdr w' B R A c l q
 | .inr (er, q) => e = .panicked (fails R er) ∧ Kp [R] w w' ∧ Rdr w' B R A c l q

theorem Rend.split {α : Type} {B : Nat → Prop} {R c : Nat} {A : Option Addr} {l : List UInt8} {val : α → Value → World → Prop} {r : (α × Nat) ⊕ (Int × Nat)} {w : World} {e : Ending} {w' : World} (h : Rend B R c A l val r w e w') :
 (∃ x q v, r = .inl (x, q) ∧ e = .returned v ∧ val x v w' ∧ Kp [R] w w' ∧ Rdr w' B R A c l q) ∨ (∃ er q, r = .inr (er, q) ∧ e = .panicked (fails R er) ∧ Kp [R] w w' ∧ Rdr w' B R A c l q) := by
 rcases r with ⟨x, q⟩ | ⟨er, q⟩
 · obtain ⟨⟨v, h1, h2⟩, h3, h4⟩ := h
   exact .inl ⟨x, q, v, rfl, h1, h2, h3, h4⟩
 · obtain ⟨h1, h3, h4⟩ := h
   exact .inr ⟨er, q, rfl, h1, h3, h4⟩
theorem Rend.yes {α : Type} {B : Nat → Prop} {R c : Nat} {A : Option Addr} {l : List UInt8} {val : α → Value → World → Prop} {r : (α × Nat) ⊕ (Int × Nat)} {w : World} {v : Value} {w' : World} {x : α} {q : Nat} (hr : r = .inl (x, q)) (hv : val x v w') (hk : Kp [R] w w') (hR : Rdr w' B R A c l q) : Rend B R c A l val r w (.returned v) w' := by
 subst hr
 exact ⟨⟨v, rfl, hv⟩, hk, hR⟩
theorem Rend.no {α : Type} {B : Nat → Prop} {R c : Nat} {A : Option Addr} {l : List UInt8} {val : α → Value → World → Prop} {r : (α × Nat) ⊕ (Int × Nat)} {w : World} {w' : World} {er : Int} {q : Nat} (hr : r = .inr (er, q)) (hk : Kp [R] w w') (hR : Rdr w' B R A c l q) : Rend B R c A l val r w (.panicked (fails R er)) w' := by
 subst hr
 exact ⟨rfl, hk, hR⟩

def vBool (b : Bool) (v : Value) (_ : World) : Prop := v = .bool b
def vInt32 (n : Int) (v : Value) (_ : World) : Prop := v = .int .i32 n
def vInt64 (n : Int) (v : Value) (_ : World) : Prop := v = .int .i64 n
def vNat (n : Nat) (v : Value) (_ : World) : Prop := v = .int .i64 n

theorem back_any (B : Nat → Prop) (R c p : Nat) (A : Option Addr) (l : List UInt8) (k er : Int) (h0 : 0 ≤ k) (hk : k ≤ p) (he : (er != 0) = true) (w : World) (h : Rdr w B R A c l p) :
 Calls Tryd.prog 103 #[.pointer (some ⟨R, 0, none⟩), .int .i64 k, .int .i64 er] w fun e w' => e = .panicked (fails R er) ∧ Kp [R] w w' ∧ Rdr w' B R A c l (p - k.toNat) := by
 have H := Hi h
 obtain ⟨c0, c1, c2, f1⟩ := h.cells
 have hp := h.here
 have hl := h.len
 have e : ((p - k.toNat : Nat) : Int) = (p : Int) - k := by omega
 have HM := h.move (q := p - k.toNat) (by omega)
 rw [e] at HM
 have HM := Hi HM
 clear h e
 go_enter Tryd.func103, Tryd.ntmps103
 go_wp2_with (go_at_call 83; refine (fail_any B R c (p - k.toNat) A l er he _ HM.out).mono ?_; rintro e w2 ⟨rfl, rfl⟩)
 exact ⟨rfl, rfl, Kp.setCell ⟨R, 1, none⟩ _, HM.out⟩

theorem take_one {l : List UInt8} {p : Nat} (h : p < l.length) : (l.drop p).take 1 = [l[p]] := by
 rw [List.drop_eq_getElem_cons h]; rfl

theorem slice_one {w : World} {B n : Nat} {A : Option Addr} {b : UInt8} (h : Reads w B 1 A n (bcells [b])) : ∃ ad, A = some ad ∧ w.cell? ad = some (.int .u8 b.toNat) := by
 have hn : n = 1 := by have := h.1; simp [bcells] at this; omega
 subst hn
 obtain ⟨ad, u, e, _, hu, hc⟩ := h.at_ (k := 0) (by omega)
 simp [bcells] at hu
 subst hu
 exact ⟨ad, e, by simpa [Addr.add] using hc⟩

theorem rBool_any (B : Nat → Prop) (R c p : Nat) (A : Option Addr) (l : List UInt8) (w : World) (h : Rdr w B R A c l p) :
 Calls Tryd.prog 92 #[.pointer (some ⟨R, 0, none⟩)] w fun e w' => Rend B R c A l vBool (gBool l p) w e w' := by
 have H := Hi h
 by_cases hk : p + 1 ≤ l.length
 · have hg : gNum 1 l p = .inl (l[p].toNat, p + 1) := by
    simp [gNum, Rg.map, gNext, hk, take_one (show p < l.length by omega), beNum]
   have HT := Hi (take_one (show p < l.length by omega))
   have hk1 : (p : Int) + 1 ≤ l.length := by omega
   have hb : l[p].toNat < 256 := l[p].toNat_lt
   by_cases h1 : 1 < l[p].toNat
   · have hg : gBool l p = .inr (22, p) := by unfold gBool; rw [hg]; exact if_pos h1
     have HG := Hi hg
     have h1' : (1 : Int) < (l[p].toNat : Int) := by omega
     clear h hg
     go_enter Tryd.func92, Tryd.ntmps92
     go_wp2_with (first
      | (go_at_call 55; refine (done_any B R c p A l w H.out).mono ?_; rintro e w2 ⟨rfl, rfl⟩)
      | (go_at_call 57; refine (next_ok B R c p A l 1 (by omega) w H.out hk1).mono ?_; rintro e w2 ⟨⟨A', c', rfl, hr, hn⟩, hkp, hR⟩; have hr' : Reads w2 w2.heap.size 1 A' 1 (bcells [l[p]]) := by rw [← HT.out]; exact hr
         obtain ⟨ad, rfl, hcell⟩ := slice_one hr'; have HKP := Hi hkp; have HR := Hi hR; clear hr hr' hn hkp hR)
      | (go_at_call 103; refine (back_any B R c _ A l 1 22 (by omega) (by simp; omega) rfl _ HR.out).mono ?_; rintro e w3 ⟨rfl, hk3, hR3⟩; have HK3 := Hi hk3; have HR3 := Hi hR3; clear hk3 hR3))
     exact ⟨rfl, Rend.no HG.out (HKP.out.trans HK3.out) HR3.out⟩
   · have hg : gBool l p = .inl (l[p].toNat == 1, p + 1) := by unfold gBool; rw [hg]; exact if_neg h1
     have HG := Hi hg
     have h1' : ¬ (1 : Int) < (l[p].toNat : Int) := by omega
     have hq : ((l[p].toNat : Int) == 1) = (l[p].toNat == 1) := by rw [Bool.eq_iff_iff]; simp; omega
     have HQ := Hi hq
     clear h hg hq
     go_enter Tryd.func92, Tryd.ntmps92
     go_wp2_with (first
      | (go_at_call 55; refine (done_any B R c p A l w H.out).mono ?_; rintro e w2 ⟨rfl, rfl⟩)
      | (go_at_call 57; refine (next_ok B R c p A l 1 (by omega) w H.out hk1).mono ?_; rintro e w2 ⟨⟨A', c', rfl, hr, hn⟩, hkp, hR⟩; have hr' : Reads w2 w2.heap.size 1 A' 1 (bcells [l[p]]) := by rw [← HT.out]; exact hr
         obtain ⟨ad, rfl, hcell⟩ := slice_one hr'; have HKP := Hi hkp; have HR := Hi hR; clear hr hr' hn hkp hR))
     go_ret
     exact Rend.yes HG.out (by show _ = _; rw [← HQ.out]; rfl) HKP.out HR.out
 · have hg : gBool l p = .inr (20, p) := by
    simp [gBool, gNum, Rg.map, gNext, hk]
   have HG := Hi hg
   have hk1 : (l.length : Int) < (p : Int) + 1 := by omega
   clear h hg
   go_enter Tryd.func92, Tryd.ntmps92
   go_wp2_with (first
    | (go_at_call 55; refine (done_any B R c p A l w H.out).mono ?_; rintro e w2 ⟨rfl, rfl⟩)
    | (go_at_call 57; refine (next_no B R c p A l 1 w H.out hk1).mono ?_; rintro e w2 ⟨rfl, hkp, hR⟩; have HKP := Hi hkp; have HR := Hi hR; clear hkp hR))
   exact ⟨rfl, Rend.no HG.out HKP.out HR.out⟩

theorem gNum_yes {k p : Nat} {l : List UInt8} (h : p + k ≤ l.length) : gNum k l p = .inl (beNum ((l.drop p).take k), p + k) := by
 simp [gNum, Rg.map, gNext, h]
theorem gNum_no {k p : Nat} {l : List UInt8} (h : ¬ p + k ≤ l.length) : gNum k l p = .inr (20, p) := by
 simp [gNum, Rg.map, gNext, h]
theorem beNum_bd {k p : Nat} {l : List UInt8} (h : p + k ≤ l.length) : beNum ((l.drop p).take k) < 256 ^ k := by
 have := beNum_lt ((l.drop p).take k)
 rwa [List.length_take, List.length_drop, Nat.min_eq_left (by omega)] at this

theorem rInt_any (B : Nat → Prop) (R c p : Nat) (A : Option Addr) (l : List UInt8) (w : World) (h : Rdr w B R A c l p) :
 Calls Tryd.prog 29 #[.pointer (some ⟨R, 0, none⟩)] w fun e w' => Rend B R c A l vInt32 (gInt l p) w e w' := by
 have H := Hi h
 by_cases hk : p + 4 ≤ l.length
 · have hg : gInt l p = .inl (wrap32 (beNum ((l.drop p).take 4)), p + 4) := by simp [gInt, Rg.map, gNum_yes hk]
   have HG := Hi hg
   have hk1 : (p : Int) + 4 ≤ l.length := by omega
   have hb := beNum_bd hk
   rw [show (256 : Nat) ^ 4 = 4294967296 by decide] at hb
   clear h hg
   go_enter Tryd.func29, Tryd.ntmps29
   go_wp2_with (first
    | (go_at_call 55; refine (done_any B R c p A l w H.out).mono ?_; rintro e w2 ⟨rfl, rfl⟩)
    | (go_at_call 57; refine (next_ok B R c p A l 4 (by omega) w H.out hk1).mono ?_; rintro e w2 ⟨⟨A', c', rfl, hr, hn⟩, hkp, hR⟩; have HRD := Hi hr; have HKP := Hi hkp; have HR := Hi hR; clear hr hn hkp hR)
    | (go_at_call 56; refine (rnumber_any A' _ c' w2.heap.size _ w2 HRD.out (by decide)).mono ?_; rintro e w3 ⟨rfl, rfl⟩))
   go_ret
   exact Rend.yes HG.out rfl HKP.out HR.out
 · have hg : gInt l p = .inr (20, p) := by simp [gInt, Rg.map, gNum_no hk]
   have HG := Hi hg
   have hk1 : (l.length : Int) < (p : Int) + 4 := by omega
   clear h hg
   go_enter Tryd.func29, Tryd.ntmps29
   go_wp2_with (first
    | (go_at_call 55; refine (done_any B R c p A l w H.out).mono ?_; rintro e w2 ⟨rfl, rfl⟩)
    | (go_at_call 57; refine (next_no B R c p A l 4 w H.out hk1).mono ?_; rintro e w2 ⟨rfl, hkp, hR⟩; have HKP := Hi hkp; have HR := Hi hR; clear hkp hR))
   exact ⟨rfl, Rend.no HG.out HKP.out HR.out⟩

theorem rLong_any (B : Nat → Prop) (R c p : Nat) (A : Option Addr) (l : List UInt8) (w : World) (h : Rdr w B R A c l p) :
 Calls Tryd.prog 86 #[.pointer (some ⟨R, 0, none⟩)] w fun e w' => Rend B R c A l vInt64 (gLong l p) w e w' := by
 have H := Hi h
 by_cases hk : p + 8 ≤ l.length
 · have hg : gLong l p = .inl (wrap64 (beNum ((l.drop p).take 8)), p + 8) := by simp [gLong, Rg.map, gNum_yes hk]
   have HG := Hi hg
   have hk1 : (p : Int) + 8 ≤ l.length := by omega
   clear h hg
   go_enter Tryd.func86, Tryd.ntmps86
   go_wp2_with (first
    | (go_at_call 55; refine (done_any B R c p A l w H.out).mono ?_; rintro e w2 ⟨rfl, rfl⟩)
    | (go_at_call 57; refine (next_ok B R c p A l 8 (by omega) w H.out hk1).mono ?_; rintro e w2 ⟨⟨A', c', rfl, hr, hn⟩, hkp, hR⟩; have HRD := Hi hr; have HKP := Hi hkp; have HR := Hi hR; clear hr hn hkp hR)
    | (go_at_call 56; refine (rnumber_any A' _ c' w2.heap.size _ w2 HRD.out (by decide)).mono ?_; rintro e w3 ⟨rfl, rfl⟩))
   go_ret
   exact Rend.yes HG.out rfl HKP.out HR.out
 · have hg : gLong l p = .inr (20, p) := by simp [gLong, Rg.map, gNum_no hk]
   have HG := Hi hg
   have hk1 : (l.length : Int) < (p : Int) + 8 := by omega
   clear h hg
   go_enter Tryd.func86, Tryd.ntmps86
   go_wp2_with (first
    | (go_at_call 55; refine (done_any B R c p A l w H.out).mono ?_; rintro e w2 ⟨rfl, rfl⟩)
    | (go_at_call 57; refine (next_no B R c p A l 8 w H.out hk1).mono ?_; rintro e w2 ⟨rfl, hkp, hR⟩; have HKP := Hi hkp; have HR := Hi hR; clear hkp hR))
   exact ⟨rfl, Rend.no HG.out HKP.out HR.out⟩

theorem rSize_any (B : Nat → Prop) (R c p : Nat) (A : Option Addr) (l : List UInt8) (most : Int) (w : World) (h : Rdr w B R A c l p) :
 Calls Tryd.prog 106 #[.pointer (some ⟨R, 0, none⟩), .int .i64 most] w fun e w' => Rend B R c A l vNat (gSize most l p) w e w' := by
 have HI := rInt_any B R c p A l w h
 have hp := h.here
 rcases hres : gInt l p with ⟨n, q⟩ | ⟨er, q⟩
 · rw [hres] at HI
   obtain ⟨hq1, hn, rfl⟩ := gInt_inl hres
   have hbd := wrap32_bd (beNum ((l.drop p).take 4))
   rw [← hn] at hbd
   obtain ⟨hbd1, hbd2⟩ := hbd
   have HI := Hi HI
   by_cases hc : n < 0 ∨ most < n
   · have hg : gSize most l p = .inr (22, p) := by unfold gSize; rw [hres]; exact if_pos hc
     have HG := Hi hg
     clear h hg hn hres
     by_cases hc0 : n < 0
     all_goals (
      try (have hc1 : most < n := by omega)
      clear hc
      go_enter Tryd.func106, Tryd.ntmps106
      go_wp2_with (first
       | (go_at_call 29; refine (HI.out).mono ?_; rintro e w2 ⟨⟨v, rfl, rfl⟩, hkp, hR⟩; have HKP := Hi hkp; have HR := Hi hR; clear hkp hR)
       | (go_at_call 103; refine (back_any B R c _ A l 4 22 (by omega) (by simp; omega) rfl _ HR.out).mono ?_; rintro e w3 ⟨rfl, hk3, hR3⟩; have HK3 := Hi hk3; have HR3 := Hi hR3; clear hk3 hR3))
      exact ⟨rfl, Rend.no HG.out (HKP.out.trans HK3.out) HR3.out⟩)
   · have hg : gSize most l p = .inl (n.toNat, p + 4) := by unfold gSize; rw [hres]; exact if_neg hc
     have HG := Hi hg
     have hc0 : ¬ n < 0 := by omega
     have hc1 : ¬ most < n := by omega
     clear h hg hn hres hc
     go_enter Tryd.func106, Tryd.ntmps106
     go_wp2_with (go_at_call 29; refine (HI.out).mono ?_; rintro e w2 ⟨⟨v, rfl, rfl⟩, hkp, hR⟩; have HKP := Hi hkp; have HR := Hi hR; clear hkp hR)
     go_ret
     exact Rend.yes HG.out (show Value.int .i64 n = .int .i64 (n.toNat : Int) by rw [Int.toNat_of_nonneg (by omega)]) HKP.out HR.out
 · rw [hres] at HI
   have HI := Hi HI
   have hg : gSize most l p = .inr (er, q) := by unfold gSize; rw [hres]
   have HG := Hi hg
   clear h hg hres
   go_enter Tryd.func106, Tryd.ntmps106
   go_wp2_with (go_at_call 29; refine (HI.out).mono ?_; rintro e w2 ⟨rfl, hkp, hR⟩; have HKP := Hi hkp; have HR := Hi hR; clear hkp hR)
   exact ⟨rfl, Rend.no HG.out HKP.out HR.out⟩


def vSlice (x : List UInt8) (v : Value) (w : World) : Prop := ∃ A' c', v = .slice A' x.length c' ∧ Reads w w.heap.size 1 A' x.length (bcells x) ∧ (A' = none → x.length = 0 ∧ c' = 0) ∧ x.length ≤ c'
def vOwn (base : Nat) (x : List UInt8) (v : Value) (w : World) : Prop := ∃ A' c', v = .slice A' x.length c' ∧ w.ownsRow base 5 1 v x.length (bcells x)

theorem rBytes_any (B : Nat → Prop) (R c p : Nat) (A : Option Addr) (l : List UInt8) (most : Int) (w : World) (h : Rdr w B R A c l p) :
 Calls Tryd.prog 101 #[.pointer (some ⟨R, 0, none⟩), .int .i64 most] w fun e w' => Rend B R c A l vSlice (gBuf most l p) w e w' := by
 have HI := rSize_any B R c p A l most w h
 rcases hres : gSize most l p with ⟨n, q⟩ | ⟨er, q⟩
 · rw [hres] at HI
   obtain ⟨hq1, rfl, _, hbd, _⟩ := gSize_inl hres
   have HI := Hi HI
   have hlen := h.len
   by_cases hc : p + 4 + n ≤ l.length
   · have hg : gBuf most l p = .inl ((l.drop (p + 4)).take n, p + 4 + n) := by unfold gBuf; rw [hres]; exact if_pos hc
     have HG := Hi hg
     have hc1 : ¬ (l.length : Int) - (p + 4) < n := by omega
     have hc2 : ((p + 4 : Nat) : Int) + (n : Int) ≤ l.length := by omega
     have HT : Hid (((l.drop (p + 4)).take n).length = n) := by show _ = _; rw [List.length_take, List.length_drop]; omega
     clear h hg hres
     go_enter Tryd.func101, Tryd.ntmps101
     go_wp2_with (first
      | (go_at_call 106; refine (HI.out).mono ?_; rintro e w2 ⟨⟨v, rfl, rfl⟩, hkp, hR⟩; have HL : Hid (((l.length - (p + 4) : Nat) : Int) = (l.length : Int) - (p + 4)) := (by show _ = _; have := hR.here; omega); have HKP := Hi hkp; have HR := Hi hR; clear hkp hR)
      | (go_at_call 82; refine (left_any B R c _ A l _ HR.out).mono ?_; rintro e w3 ⟨rfl, n0, rfl⟩; have HR0 := Hi (HR.out.later (below_drewN' zT n0)); rw [HL.out])
      | (go_at_call 57; refine (next_ok B R c _ A l _ (by omega) _ HR0.out hc2).mono ?_; rintro e w4 ⟨⟨A', c', rfl, hr, hn⟩, hk4, hR4⟩; have HRD := Hi hr; have HN := Hi hn; have HK4 := Hi hk4; have HR4 := Hi hR4; clear hr hn hk4 hR4))
     go_ret
     exact Rend.yes HG.out ⟨A', c', by rw [HT.out]; rfl, by rw [HT.out]; exact HRD.out, by rw [HT.out]; exact HN.out⟩ ((HKP.out.trans (Kp.drewN n0)).trans HK4.out) HR4.out
   · have hg : gBuf most l p = .inr (20, p) := by unfold gBuf; rw [hres]; exact if_neg hc
     have HG := Hi hg
     have hc1 : (l.length : Int) - (p + 4) < n := by omega
     clear h hg hres
     go_enter Tryd.func101, Tryd.ntmps101
     go_wp2_with (first
      | (go_at_call 106; refine (HI.out).mono ?_; rintro e w2 ⟨⟨v, rfl, rfl⟩, hkp, hR⟩; have HL : Hid (((l.length - (p + 4) : Nat) : Int) = (l.length : Int) - (p + 4)) := (by show _ = _; have := hR.here; omega); have HKP := Hi hkp; have HR := Hi hR; clear hkp hR)
      | (go_at_call 82; refine (left_any B R c _ A l _ HR.out).mono ?_; rintro e w3 ⟨rfl, n0, rfl⟩; have HR0 := Hi (HR.out.later (below_drewN' zT n0)); rw [HL.out])
      | (go_at_call 103; refine (back_any B R c _ A l 4 20 (by omega) (by simp; omega) rfl _ HR0.out).mono ?_; rintro e w4 ⟨rfl, hk3, hR3⟩; have HK3 := Hi hk3; have HR3 := Hi hR3; clear hk3 hR3))
     exact ⟨rfl, Rend.no HG.out ((HKP.out.trans (Kp.drewN n0)).trans HK3.out) HR3.out⟩
 · rw [hres] at HI
   have HI := Hi HI
   have hg : gBuf most l p = .inr (er, q) := by unfold gBuf; rw [hres]
   have HG := Hi hg
   clear h hg hres
   go_enter Tryd.func101, Tryd.ntmps101
   go_wp2_with (go_at_call 106; refine (HI.out).mono ?_; rintro e w2 ⟨rfl, hkp, hR⟩; have HKP := Hi hkp; have HR := Hi hR; clear hkp hR)
   exact ⟨rfl, Rend.no HG.out HKP.out HR.out⟩


theorem gBuf_len {most : Int} {l x : List UInt8} {p q : Nat} (h : gBuf most l p = .inl (x, q)) (hl : l.length ≤ 140737488355328) : x.length ≤ 140737488355328 := by
 unfold gBuf at h
 split at h
 · split at h
   · simp only [Sum.inl.injEq, Prod.mk.injEq] at h
     obtain ⟨rfl, _⟩ := h
     rw [List.length_take, List.length_drop]
     omega
   · cases h
 · cases h

theorem own_base {w : World} {base base' : Nat} {e : TypeId} {size n : Nat} {v : Value} {xs : List Value} (h : w.ownsRow base e size v n xs) (hb : base' ≤ base) : w.ownsRow base' e size v n xs := by
 refine ⟨h.1, ?_⟩
 rcases h.2 with h2 | ⟨g, cap, cur, h1, h3, h4⟩
 · exact .inl h2
 · exact .inr ⟨g, cap, cur, h1, Nat.le_trans hb h3, h4⟩

theorem rBuffer_any (B : Nat → Prop) (R c p : Nat) (A : Option Addr) (l : List UInt8) (most : Int) (w : World) (h : Rdr w B R A c l p) :
 Calls Tryd.prog 90 #[.pointer (some ⟨R, 0, none⟩), .int .i64 most] w fun e w' => Rend B R c A l (vOwn w.heap.size) (gBuf most l p) w e w' := by
 have HI := rBytes_any B R c p A l most w h
 have H := Hi h
 rcases hres : gBuf most l p with ⟨x, q⟩ | ⟨er, q⟩
 · rw [hres] at HI
   have HI := Hi HI
   have HX := Hi (gBuf_len hres h.len)
   clear h hres
   go_enter Tryd.func90, Tryd.ntmps90
   go_wp2_with (first
    | (go_at_call 55; refine (done_any B R c p A l w H.out).mono ?_; rintro e w1 ⟨rfl, rfl⟩)
    | (go_at_call 101; refine (HI.out).mono ?_; rintro e w2 ⟨⟨v, rfl, A', c', rfl, hr, hn⟩, hkp, hR⟩; have HRD := Hi hr; have HN := Hi hn; have HKP := Hi hkp; have HR := Hi hR; clear hkp hR)
    | (go_at_call 51; have hx : x.length ≤ 140737488355328 := (by
        have h1 := HRD.out.1
        rw [bcells_length] at h1
        have h2 := HX.out
        omega)
       refine (clone_any A' _ c' w2.heap.size (bcells x) w2 HRD.out (bcells_one _) zR hx HN.out.1).mono ?_; rintro e w3 ⟨A2, c2, rfl, ho, hb⟩; have HO := Hi ho; have HB3 := Hi hb; clear ho hb))
   go_ret
   exact Rend.yes rfl ⟨A2, c2, rfl, own_base HO.out HKP.out.size⟩ (HKP.out.to (Kp.of_below (X := []) HB3.out) (fun _ h _ => h) (fun _ h => by cases h)) (HR.out.later HB3.out)
 · rw [hres] at HI
   have HI := Hi HI
   clear h hres
   go_enter Tryd.func90, Tryd.ntmps90
   go_wp2_with (first
    | (go_at_call 55; refine (done_any B R c p A l w H.out).mono ?_; rintro e w1 ⟨rfl, rfl⟩)
    | (go_at_call 101; refine (HI.out).mono ?_; rintro e w2 ⟨rfl, hkp, hR⟩; have HKP := Hi hkp; have HR := Hi hR; clear hkp hR))
   exact ⟨rfl, Rend.no rfl HKP.out HR.out⟩

theorem rCount_any (B : Nat → Prop) (R c p : Nat) (A : Option Addr) (l : List UInt8) (most least : Int) (w : World) (h : Rdr w B R A c l p) :
 Calls Tryd.prog 100 #[.pointer (some ⟨R, 0, none⟩), .int .i64 most, .int .i64 least] w fun e w' => Rend B R c A l vNat (gCount most least l p) w e w' := by
 have HI := rSize_any B R c p A l most w h
 have H := Hi h
 rcases hres : gSize most l p with ⟨n, q⟩ | ⟨er, q⟩
 · rw [hres] at HI
   obtain ⟨hq1, rfl, _, hbd, _⟩ := gSize_inl hres
   have HI := Hi HI
   have hlen := h.len
   by_cases h1 : 1 ≤ least
   · by_cases hc : ((l.length - (p + 4) : Nat) : Int) / least < n
     · have hg : gCount most least l p = .inr (20, p) := by unfold gCount; rw [hres]; exact if_pos ⟨h1, hc⟩
       have HG := Hi hg
       have e1 : ((l.length - (p + 4) : Nat) : Int) = (l.length : Int) - (p + 4) := by omega
       rw [e1] at hc
       clear h hg hres e1
       go_enter Tryd.func100, Tryd.ntmps100
       go_wp2_with (first
        | (go_at_call 55; refine (done_any B R c p A l w H.out).mono ?_; rintro e w1 ⟨rfl, rfl⟩)
        | (go_at_call 106; refine (HI.out).mono ?_; rintro e w2 ⟨⟨v, rfl, rfl⟩, hkp, hR⟩; have HL : Hid (((l.length - (p + 4) : Nat) : Int) = (l.length : Int) - (p + 4)) := (by show _ = _; have := hR.here; omega); have HKP := Hi hkp; have HR := Hi hR; clear hkp hR)
        | (go_at_call 82; refine (left_any B R c _ A l _ HR.out).mono ?_; rintro e w3 ⟨rfl, n0, rfl⟩; have HR0 := Hi (HR.out.later (below_drewN' zT n0)); rw [HL.out])
        | (go_at_call 103; refine (back_any B R c _ A l 4 20 (by omega) (by simp; omega) rfl _ HR0.out).mono ?_; rintro e w4 ⟨rfl, hk3, hR3⟩; have HK3 := Hi hk3; have HR3 := Hi hR3; clear hk3 hR3))
       exact ⟨rfl, Rend.no HG.out ((HKP.out.trans (Kp.drewN n0)).trans HK3.out) HR3.out⟩
     · have hg : gCount most least l p = .inl (n, p + 4) := by unfold gCount; rw [hres]; exact if_neg (fun h => hc h.2)
       have HG := Hi hg
       have e1 : ((l.length - (p + 4) : Nat) : Int) = (l.length : Int) - (p + 4) := by omega
       rw [e1] at hc
       clear h hg hres e1
       go_enter Tryd.func100, Tryd.ntmps100
       go_wp2_with (first
        | (go_at_call 55; refine (done_any B R c p A l w H.out).mono ?_; rintro e w1 ⟨rfl, rfl⟩)
        | (go_at_call 106; refine (HI.out).mono ?_; rintro e w2 ⟨⟨v, rfl, rfl⟩, hkp, hR⟩; have HL : Hid (((l.length - (p + 4) : Nat) : Int) = (l.length : Int) - (p + 4)) := (by show _ = _; have := hR.here; omega); have HKP := Hi hkp; have HR := Hi hR; clear hkp hR)
        | (go_at_call 82; refine (left_any B R c _ A l _ HR.out).mono ?_; rintro e w3 ⟨rfl, n0, rfl⟩; have HR0 := Hi (HR.out.later (below_drewN' zT n0)); rw [HL.out]))
       go_ret
       exact Rend.yes HG.out rfl (HKP.out.trans (Kp.drewN n0)) HR0.out
   · have hg : gCount most least l p = .inl (n, p + 4) := by unfold gCount; rw [hres]; exact if_neg (fun h => h1 h.1)
     have HG := Hi hg
     clear h hg hres
     go_enter Tryd.func100, Tryd.ntmps100
     go_wp2_with (first
      | (go_at_call 55; refine (done_any B R c p A l w H.out).mono ?_; rintro e w1 ⟨rfl, rfl⟩)
      | (go_at_call 106; refine (HI.out).mono ?_; rintro e w2 ⟨⟨v, rfl, rfl⟩, hkp, hR⟩; have HL : Hid (((l.length - (p + 4) : Nat) : Int) = (l.length : Int) - (p + 4)) := (by show _ = _; have := hR.here; omega); have HKP := Hi hkp; have HR := Hi hR; clear hkp hR))
     go_ret
     exact Rend.yes HG.out rfl HKP.out HR.out
 · rw [hres] at HI
   have HI := Hi HI
   have hg : gCount most least l p = .inr (er, q) := by unfold gCount; rw [hres]
   have HG := Hi hg
   clear h hg hres
   go_enter Tryd.func100, Tryd.ntmps100
   go_wp2_with (first
    | (go_at_call 55; refine (done_any B R c p A l w H.out).mono ?_; rintro e w1 ⟨rfl, rfl⟩)
    | (go_at_call 106; refine (HI.out).mono ?_; rintro e w2 ⟨rfl, hkp, hR⟩; have HKP := Hi hkp; have HR := Hi hR; clear hkp hR))
   exact ⟨rfl, Rend.no HG.out HKP.out HR.out⟩
end Go.Proofs.YtpjjnmdfgcfnmaaDoor
