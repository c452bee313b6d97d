/- the writers of lists: jute.List, acl.Put, acl.PutIds. (printed by gen_p18.py) -/
import Derived.Test.YtpjjnmdfgcfnmaaGreatDoorOqa
import Derived.Test.YtpjjnmdfgcfnmaaGreatDoorOqb
import Derived.Test.YtpjjnmdfgcfnmaaGreatDoorOqd
import Derived.Test.YtpjjnmdfgcfnmaaGreatDoorJw
set_option linter.unusedVariables false
set_option linter.unusedSimpArgs false
namespace Go.Proofs.YtpjjnmdfgcfnmaaGreatDoor
open Go.RowKit

def pIdB (x : ByteArray × ByteArray) : List UInt8 := bBuf x.1.data.toList ++ bBuf x.2.data.toList
def pIdsB (L : List (ByteArray × ByteArray)) : List UInt8 := L.flatMap pIdB
def pAclB (x : AclT) : List UInt8 := bInt x.1 ++ pIdB x.2
def pAclsB (L : List AclT) : List UInt8 := L.flatMap pAclB
theorem pIdB_len (x : ByteArray × ByteArray) : (pIdB x).length = 8 + x.1.size + x.2.size := by
  unfold pIdB
  rw [List.length_append, bBuf_len, bBuf_len, ← bsize_eq, ← bsize_eq]
  omega
theorem pAclB_len (x : AclT) : (pAclB x).length = 12 + x.2.1.size + x.2.2.size := by
  unfold pAclB
  rw [List.length_append, bInt_len, pIdB_len]
  omega
theorem strCells_eq (L : List ByteArray) : strCells L = scells L := by
  unfold strCells scells
  induction L with
  | nil => rfl
  | cons x r ih => rw [List.flatMap_cons, List.map_cons, ih]; rfl
theorem zerP_acl : ((Tryz.prog.info? 104).bind (·.zero)).map (·.cells.size) = some 3 := by kernel_rfl
theorem zerP_id : ((Tryz.prog.info? 102).bind (·.zero)).map (·.cells.size) = some 2 := by kernel_rfl
theorem textFn_ne (w : World) : (binOp .eql 77 (.func (.func 42) #[] #[]) .nilFunc).run Tryz.prog w = .ok (.bool false) w := by kernel_rfl
theorem aclFn_ne (w : World) : (binOp .eql 115 (.func (.func 80) #[] #[]) .nilFunc).run Tryz.prog w = .ok (.bool false) w := by kernel_rfl
theorem idFn_ne (w : World) : (binOp .eql 114 (.func (.func 81) #[] #[]) .nilFunc).run Tryz.prog w = .ok (.bool false) w := by kernel_rfl
set_option maxRecDepth 100000 in
set_option maxHeartbeats 4000000 in
theorem putId_any (base g : Nat) (v : Value) (l : List UInt8) (x : ByteArray × ByteArray) (w : World) (h : Wr w base g v l) (hbase : base ≤ w.heap.size) (hsz : l.length + x.1.size + x.2.size + 16 ≤ 140737488355328) :
    Calls Tryz.prog 81 #[.pointer (some ⟨g, 0, none⟩), .agg #[.string x.1, .string x.2]] w fun e w' => e = .returned (.tuple #[]) ∧ ∃ v', Wrote base g v v' l (pIdB x) w w' := by
  obtain ⟨s0, s1⟩ := x
  unfold pIdB
  dsimp only at hsz ⊢
  obtain ⟨w1, hw1⟩ : ∃ w1, w.alloc (.cells #[.string s0, .string s1] 102) = w1 := ⟨_, rfl⟩
  have hn1 : Blk w1 w.heap.size 102 #[.string s0, .string s1] := by rw [← hw1]; exact Blk.new _ _ _
  have hb1 : Below w.heap.size w w1 := by rw [← hw1]; exact (Below.refl _ _).alloc (Nat.le_refl _) _
  have c0 := blk_cell hn1 0 (u := .string s0) rfl
  have c1 := blk_cell hn1 1 (u := .string s1) rfl
  have HN1 := Lib.hid hn1
  have hg := h.lt
  have hv : ∀ x, v.ownBlock = some x → x < w.heap.size := fun x hx => (h.2.lt x hx).2
  have H0 := Lib.hid (h.later hb1)
  have HB1 := Lib.hid hb1
  have hz := hb1.size
  have H00 := Lib.hid h
  clear h hn1 hb1
  go_enter Tryz.func81, Tryz.ntmps81
  go_wp2_with (first
    | (go_at_call 42
       refine (wText_any base g v l s0 _ H0.out (by omega) (by omega)).mono ?_
       rintro e w2 ⟨rfl, v2, hp⟩
       have HP2 := Lib.hid hp
       have d1 : w2.cell? ⟨w.heap.size, 1, none⟩ = some (.string s1) := (hp.2.1.cell HN1.out.lt (by
         intro hx
         rcases List.mem_cons.1 hx with hx | hx
         · have : w.heap.size = g := hx
           omega
         · have := hv w.heap.size (by simpa using hx)
           omega)).trans c1
       have hz2 := hp.size
       clear hp c0 c1 H0)
    | (go_at_call 42
       refine (wText_any base g v2 _ s1 _ HP2.out.1 (by omega) (by rw [List.length_append, bBuf_len, ← bsize_eq]; omega)).mono ?_
       rintro e w3 ⟨rfl, v3, hp⟩
       have HP3 := Lib.hid (HP2.out.cat (Below.refl _ _) hp)
       clear hp))
  go_end0
  exact ⟨rfl, v3, HP3.out.from HB1.out⟩
set_option maxRecDepth 100000 in
set_option maxHeartbeats 4000000 in
theorem putAcl_any (base g : Nat) (v : Value) (l : List UInt8) (x : AclT) (w : World) (h : Wr w base g v l) (hbase : base ≤ w.heap.size) (hsz : l.length + x.2.1.size + x.2.2.size + 24 ≤ 140737488355328) :
    Calls Tryz.prog 80 #[.pointer (some ⟨g, 0, none⟩), .agg #[.int .i32 x.1, .string x.2.1, .string x.2.2]] w fun e w' => e = .returned (.tuple #[]) ∧ ∃ v', Wrote base g v v' l (pAclB x) w w' := by
  obtain ⟨z, s0, s1⟩ := x
  unfold pAclB
  dsimp only at hsz ⊢
  obtain ⟨w1, hw1⟩ : ∃ w1, w.alloc (.cells #[.int .i32 z, .string s0, .string s1] 104) = w1 := ⟨_, rfl⟩
  have hn1 : Blk w1 w.heap.size 104 #[.int .i32 z, .string s0, .string s1] := by rw [← hw1]; exact Blk.new _ _ _
  have hb1 : Below w.heap.size w w1 := by rw [← hw1]; exact (Below.refl _ _).alloc (Nat.le_refl _) _
  have c0 := blk_cell hn1 0 (u := .int .i32 z) rfl
  have HN1 := Lib.hid hn1
  have hg := h.lt
  have hv : ∀ x, v.ownBlock = some x → x < w.heap.size := fun x hx => (h.2.lt x hx).2
  have H0 := Lib.hid (h.later hb1)
  have HB1 := Lib.hid hb1
  have hz := hb1.size
  clear h hn1 hb1
  go_enter Tryz.func80, Tryz.ntmps80
  go_wp2_with (first
    | (go_at_call 40
       refine (wInt_any base g v l z _ H0.out (by omega) (by omega)).mono ?_
       rintro e w2 ⟨rfl, v2, hp⟩
       have HP2 := Lib.hid hp
       have hn2 : Blk w2 w.heap.size 104 #[.int .i32 z, .string s0, .string s1] := HN1.out.kp hp.2.1 (by
         intro hx
         rcases List.mem_cons.1 hx with hx | hx
         · have : w.heap.size = g := hx
           omega
         · have := hv w.heap.size (by simpa using hx)
           omega)
       have HR2 : Hid (∀ j v, ([.string s0, .string s1] : List Value)[j]? = some v → w2.cell? ((⟨w.heap.size, 1, none⟩ : Addr).add j) = some v) := (fun j v hv => by
         rw [Go.WideShapes.add_plain]
         rcases j with _ | _ | j
         · simp at hv; subst hv; exact blk_cell hn2 1 rfl
         · simp at hv; subst hv; exact blk_cell hn2 2 rfl
         · simp at hv)
       have hz2 := hp.size
       clear hp c0 H0 hn2)
    | (refine wpList_load_at (by rfl) 102 (.tmp 9) rfl ⟨w.heap.size, 1, none⟩ rfl [.string s0, .string s1] _ HR2.out Tryz.underlying102 rfl isz_102 ?_)
    | (go_at_call 81
       refine (putId_any base g v2 _ (s0, s1) _ HP2.out.1 (by omega) (by rw [List.length_append, bInt_len]; dsimp only; omega)).mono ?_
       rintro e w3 ⟨rfl, v3, hp⟩
       have HP3 := Lib.hid (HP2.out.cat (Below.refl _ _) hp)
       clear hp))
  go_end0
  exact ⟨rfl, v3, HP3.out.from HB1.out⟩

set_option maxRecDepth 100000 in
set_option maxHeartbeats 4000000 in
theorem pTexts_any (base g : Nat) (v : Value) (l : List UInt8) (A : Option Addr) (n c B : Nat) (L : List ByteArray) (w : World) (h : Wr w base g v l) (hr : Reads w B 1 A n (scells L)) (hB : B ≤ base) (hg : base ≤ g) (hbase : base ≤ w.heap.size) (hn : n ≤ 9223372036854775807) (hsz : l.length + (bTexts L).length + 8 ≤ 140737488355328) :
    Calls Tryz.prog 47 #[.pointer (some ⟨g, 0, none⟩), .slice A n c, .func (.func 42) #[] #[]] w fun e w' => e = .returned (.tuple #[]) ∧ ∃ v', Wrote base g v v' l (bInt n ++ bTexts L) w w' := by
  have hl : L.length = n := by have := hr.1; rw [scells_length] at this; omega
  subst hl
  have HL := Lib.hid (h.2.lt)
  have H0 := Lib.hid h
  have HR := Lib.hid hr
  clear h hr
  have hnf := textFn_ne
  go_enter Tryz.func47, Tryz.ntmps47
  go_wp2_with (first
    | (go_at_call 77; refine (wCount_any base g v l _ _ H0.out hbase (by omega)).mono ?_; rintro e w1 ⟨rfl, v1, hp⟩; have HP := Lib.hid hp; clear hp))
  go_loopw [16] (fun i wr => ∃ (k : Nat) (v2 : Value), k ≤ L.length ∧ i = .int .i64 k ∧ Wrote base g v v2 l (bInt L.length ++ bTexts (L.take k)) w wr) (fun i _ => L.length - (intOf i).toNat)
  case atStart => exact ⟨0, v1, Nat.zero_le _, rfl, by simpa [bTexts] using HP.out⟩
  case round =>
    clear HP
    obtain ⟨k, v2, hk, rfl, hW⟩ := hrel
    have hbw := hW.below (B := B) (by omega) (fun x hx => by have := (HL.out x hx).1; omega) (by omega)
    have hsz1 := hW.size
    have HW := Lib.hid hW
    clear hW
    by_cases hlt : k < L.length
    · obtain ⟨ad, u, e, _, hu, hcell⟩ := (HR.out.below hbw).at_ hlt
      subst e
      have hget : u = .string (L[k]) := by
        simp only [scells, List.getElem?_map, List.getElem?_eq_getElem hlt, Option.map_some, Option.some.injEq] at hu
        exact hu.symm
      subst hget
      have hle : (bTexts (L.take k)).length + (bBuf L[k].data.toList).length ≤ (bTexts L).length := by
        have e : bTexts L = bTexts (L.take k) ++ bBuf L[k].data.toList ++ bTexts (L.drop (k + 1)) := by
          rw [← bTexts_snoc, ← List.take_succ_eq_append_getElem hlt]
          simp only [bTexts, ← List.flatMap_append, List.take_append_drop]
        rw [e, List.length_append, List.length_append]
        omega
      rw [bBuf_len, ← bsize_eq] at hle
      clear hu hbw
      go_wp2_with (go_at_call 42; refine (wText_any base g v2 _ L[k] wr HW.out.1 (by omega) (by rw [List.length_append, List.length_append, bInt_len]; omega)).mono ?_; rintro e w2 ⟨rfl, v3, hp⟩; have HP := Lib.hid (HW.out.cat (Below.refl _ _) hp); clear hp)
      go_roundw
      case rel => exact ⟨k + 1, v3, by omega, by go_num, by rw [List.take_succ_eq_append_getElem hlt, bTexts_snoc, ← List.append_assoc]; exact HP.out⟩
      case measure => simp [intOf]; omega
    · have hkl : k = L.length := by omega
      have HK := Lib.hid hkl
      clear hkl hbw
      go_wp2
      go_end0
      have hW := HW.out
      rw [HK.out, List.take_of_length_le (Nat.le_refl _)] at hW
      exact ⟨rfl, v2, hW⟩

theorem pAclsB_snoc (L : List AclT) (x : AclT) : pAclsB (L ++ [x]) = pAclsB L ++ pAclB x := by simp [pAclsB]
set_option maxRecDepth 100000 in
set_option maxHeartbeats 4000000 in
theorem pAcls_any (base g : Nat) (v : Value) (l : List UInt8) (A : Option Addr) (n c B : Nat) (L : List AclT) (w : World) (h : Wr w base g v l) (hr : Reads w B 3 A n (aclCells L)) (hB : B ≤ base) (hg : base ≤ g) (hbase : base ≤ w.heap.size) (hn : n ≤ 9223372036854775807) (hsz : l.length + (pAclsB L).length + 40 ≤ 140737488355328) :
    Calls Tryz.prog 79 #[.pointer (some ⟨g, 0, none⟩), .slice A n c, .func (.func 80) #[] #[]] w fun e w' => e = .returned (.tuple #[]) ∧ ∃ v', Wrote base g v v' l (bInt n ++ pAclsB L) w w' := by
  have hl : L.length = n := by have := hr.1; rw [aclCells_length] at this; omega
  subst hl
  have HL := Lib.hid (h.2.lt)
  have H0 := Lib.hid h
  have HR := Lib.hid hr
  clear h hr
  have hnf := aclFn_ne
  go_enter Tryz.func79, Tryz.ntmps79
  go_wp2_with (first
    | (go_at_call 77; refine (wCount_any base g v l _ _ H0.out hbase (by omega)).mono ?_; rintro e w1 ⟨rfl, v1, hp⟩; have HP := Lib.hid hp; clear hp))
  go_loopw [16] (fun i wr => ∃ (k : Nat) (v2 : Value), k ≤ L.length ∧ i = .int .i64 k ∧ Wrote base g v v2 l (bInt L.length ++ pAclsB (L.take k)) w wr) (fun i _ => L.length - (intOf i).toNat)
  case atStart => exact ⟨0, v1, Nat.zero_le _, rfl, by simpa [pAclsB] using HP.out⟩
  case round =>
    clear HP
    obtain ⟨k, v2, hk, rfl, hW⟩ := hrel
    have hbw := hW.below (B := B) (by omega) (fun x hx => by have := (HL.out x hx).1; omega) (by omega)
    have hsz1 := hW.size
    have HW := Lib.hid hW
    clear hW
    by_cases hlt : k < L.length
    · obtain ⟨b, off, hA, _, hx⟩ := (HR.out.below hbw).plain (by omega) (by omega)
      have hle : (pAclsB (L.take k)).length + (pAclB L[k]).length ≤ (pAclsB L).length := by
        have e : pAclsB L = pAclsB (L.take k) ++ pAclB L[k] ++ pAclsB (L.drop (k + 1)) := by
          rw [← pAclsB_snoc, ← List.take_succ_eq_append_getElem hlt]
          simp only [pAclsB, ← List.flatMap_append, List.take_append_drop]
        rw [e, List.length_append, List.length_append]
        omega
      rw [pAclB_len] at hle
      have HROW : Hid (∀ j v, ([.int .i32 L[k].1, .string L[k].2.1, .string L[k].2.2] : List Value)[j]? = some v → wr.cell? ((⟨b, off + k * 3, none⟩ : Addr).add j) = some v) := by
        obtain ⟨g0, g1, g2⟩ := aclCells_get L k hlt
        have x0 := hx _ _ g0
        have x1 := hx _ _ g1
        have x2 := hx _ _ g2
        exact fun j v hv => by
          rw [Go.WideShapes.add_plain]
          rcases j with _ | _ | _ | j
          · simp at hv; subst hv; simpa using x0
          · simp at hv; subst hv; simpa [Nat.add_assoc] using x1
          · simp at hv; subst hv; simpa [Nat.add_assoc] using x2
          · simp at hv
      obtain ⟨w2, hw2⟩ : ∃ w2, wr.alloc (.cells #[.int .i32 L[k].1, .string L[k].2.1, .string L[k].2.2] 104) = w2 := ⟨_, rfl⟩
      have HN2 : Hid (Blk w2 wr.heap.size 104 #[.int .i32 L[k].1, .string L[k].2.1, .string L[k].2.2]) := by unfold Hid; rw [← hw2]; exact Blk.new _ _ _
      have hb2 : Below wr.heap.size wr w2 := by rw [← hw2]; exact (Below.refl _ _).alloc (Nat.le_refl _) _
      have HW2 := Lib.hid (HW.out.later hb2)
      have hz2 := hb2.size
      have HSN : Hid (pAclsB (L.take (k + 1)) = pAclsB (L.take k) ++ pAclB L[k]) := by unfold Hid; rw [List.take_succ_eq_append_getElem hlt, pAclsB_snoc]
      subst hA
      clear hx hbw hb2
      go_wp2_with (first
        | (refine wpList_load_at (by rfl) 104 (.tmp 18) rfl ⟨b, off + k * 3, none⟩ rfl [.int .i32 L[k].1, .string L[k].2.1, .string L[k].2.2] _ HROW.out Tryz.underlying104 rfl isz_104 ?_)
        | (refine wpList_newrow rfl rfl 104 rfl 7 rfl (.tmp 19) rfl rfl #[.int .i32 L[k].1, .string L[k].2.1, .string L[k].2.2] (fun _ => rfl) (show 7 < 25 by decide) zerP_acl isz_104 (by simp [Value.oneCell']) ?_
           rw [hw2])
        | (refine wpList_load_row rfl 104 (.tmp 7) rfl wr.heap.size rfl 104 _ _ _ HN2.out Tryz.underlying104 rfl isz_104 ?_)
        | (go_at_call 80
           refine (putAcl_any base g v2 _ L[k] w2 HW2.out.1 (by omega) (by rw [List.length_append, List.length_append, bInt_len]; omega)).mono ?_
           rintro e w3 ⟨rfl, v3, hp⟩
           have HP := Lib.hid (HW2.out.cat (Below.refl _ _) hp)
           clear hp))
      go_roundw
      case rel => exact ⟨k + 1, v3, by omega, by go_num, by rw [HSN.out, ← List.append_assoc]; exact HP.out⟩
      case measure => simp [intOf]; omega
    · have hkl : k = L.length := by omega
      have HK := Lib.hid hkl
      clear hkl hbw
      go_wp2
      go_end0
      have hW := HW.out
      rw [HK.out, List.take_of_length_le (Nat.le_refl _)] at hW
      exact ⟨rfl, v2, hW⟩

theorem pIdsB_snoc (L : List (ByteArray × ByteArray)) (x : (ByteArray × ByteArray)) : pIdsB (L ++ [x]) = pIdsB L ++ pIdB x := by simp [pIdsB]
set_option maxRecDepth 100000 in
set_option maxHeartbeats 4000000 in
theorem pIds_any (base g : Nat) (v : Value) (l : List UInt8) (A : Option Addr) (n c B : Nat) (L : List (ByteArray × ByteArray)) (w : World) (h : Wr w base g v l) (hr : Reads w B 2 A n (idCells L)) (hB : B ≤ base) (hg : base ≤ g) (hbase : base ≤ w.heap.size) (hn : n ≤ 9223372036854775807) (hsz : l.length + (pIdsB L).length + 40 ≤ 140737488355328) :
    Calls Tryz.prog 82 #[.pointer (some ⟨g, 0, none⟩), .slice A n c, .func (.func 81) #[] #[]] w fun e w' => e = .returned (.tuple #[]) ∧ ∃ v', Wrote base g v v' l (bInt n ++ pIdsB L) w w' := by
  have hl : L.length = n := by have := hr.1; rw [idCells_length] at this; omega
  subst hl
  have HL := Lib.hid (h.2.lt)
  have H0 := Lib.hid h
  have HR := Lib.hid hr
  clear h hr
  have hnf := idFn_ne
  go_enter Tryz.func82, Tryz.ntmps82
  go_wp2_with (first
    | (go_at_call 77; refine (wCount_any base g v l _ _ H0.out hbase (by omega)).mono ?_; rintro e w1 ⟨rfl, v1, hp⟩; have HP := Lib.hid hp; clear hp))
  go_loopw [16] (fun i wr => ∃ (k : Nat) (v2 : Value), k ≤ L.length ∧ i = .int .i64 k ∧ Wrote base g v v2 l (bInt L.length ++ pIdsB (L.take k)) w wr) (fun i _ => L.length - (intOf i).toNat)
  case atStart => exact ⟨0, v1, Nat.zero_le _, rfl, by simpa [pIdsB] using HP.out⟩
  case round =>
    clear HP
    obtain ⟨k, v2, hk, rfl, hW⟩ := hrel
    have hbw := hW.below (B := B) (by omega) (fun x hx => by have := (HL.out x hx).1; omega) (by omega)
    have hsz1 := hW.size
    have HW := Lib.hid hW
    clear hW
    by_cases hlt : k < L.length
    · obtain ⟨b, off, hA, _, hx⟩ := (HR.out.below hbw).plain (by omega) (by omega)
      have hle : (pIdsB (L.take k)).length + (pIdB L[k]).length ≤ (pIdsB L).length := by
        have e : pIdsB L = pIdsB (L.take k) ++ pIdB L[k] ++ pIdsB (L.drop (k + 1)) := by
          rw [← pIdsB_snoc, ← List.take_succ_eq_append_getElem hlt]
          simp only [pIdsB, ← List.flatMap_append, List.take_append_drop]
        rw [e, List.length_append, List.length_append]
        omega
      rw [pIdB_len] at hle
      have HROW : Hid (∀ j v, ([.string L[k].1, .string L[k].2] : List Value)[j]? = some v → wr.cell? ((⟨b, off + k * 2, none⟩ : Addr).add j) = some v) := by
        obtain ⟨g0, g1⟩ := idCells_get L k hlt
        have x0 := hx _ _ g0
        have x1 := hx _ _ g1
        exact fun j v hv => by
          rw [Go.WideShapes.add_plain]
          rcases j with _ | _ | j
          · simp at hv; subst hv; simpa using x0
          · simp at hv; subst hv; simpa [Nat.add_assoc] using x1
          · simp at hv
      obtain ⟨w2, hw2⟩ : ∃ w2, wr.alloc (.cells #[.string L[k].1, .string L[k].2] 102) = w2 := ⟨_, rfl⟩
      have HN2 : Hid (Blk w2 wr.heap.size 102 #[.string L[k].1, .string L[k].2]) := by unfold Hid; rw [← hw2]; exact Blk.new _ _ _
      have hb2 : Below wr.heap.size wr w2 := by rw [← hw2]; exact (Below.refl _ _).alloc (Nat.le_refl _) _
      have HW2 := Lib.hid (HW.out.later hb2)
      have hz2 := hb2.size
      have HSN : Hid (pIdsB (L.take (k + 1)) = pIdsB (L.take k) ++ pIdB L[k]) := by unfold Hid; rw [List.take_succ_eq_append_getElem hlt, pIdsB_snoc]
      subst hA
      clear hx hbw hb2
      go_wp2_with (first
        | (refine wpList_load_at (by rfl) 102 (.tmp 18) rfl ⟨b, off + k * 2, none⟩ rfl [.string L[k].1, .string L[k].2] _ HROW.out Tryz.underlying102 rfl isz_102 ?_)
        | (refine wpList_newrow rfl rfl 102 rfl 7 rfl (.tmp 19) rfl rfl #[.string L[k].1, .string L[k].2] (fun _ => rfl) (show 7 < 25 by decide) zerP_id isz_102 (by simp [Value.oneCell']) ?_
           rw [hw2])
        | (refine wpList_load_row rfl 102 (.tmp 7) rfl wr.heap.size rfl 102 _ _ _ HN2.out Tryz.underlying102 rfl isz_102 ?_)
        | (go_at_call 81
           refine (putId_any base g v2 _ L[k] w2 HW2.out.1 (by omega) (by rw [List.length_append, List.length_append, bInt_len]; omega)).mono ?_
           rintro e w3 ⟨rfl, v3, hp⟩
           have HP := Lib.hid (HW2.out.cat (Below.refl _ _) hp)
           clear hp))
      go_roundw
      case rel => exact ⟨k + 1, v3, by omega, by go_num, by rw [HSN.out, ← List.append_assoc]; exact HP.out⟩
      case measure => simp [intOf]; omega
    · have hkl : k = L.length := by omega
      have HK := Lib.hid hkl
      clear hkl hbw
      go_wp2
      go_end0
      have hW := HW.out
      rw [HK.out, List.take_of_length_le (Nat.le_refl _)] at hW
      exact ⟨rfl, v2, hW⟩

set_option maxRecDepth 100000 in
theorem aclPut_any (base g : Nat) (v : Value) (l : List UInt8) (A : Option Addr) (n c B : Nat) (L : List AclT) (w : World) (h : Wr w base g v l) (hr : Reads w B 3 A n (aclCells L)) (hB : B ≤ base) (hg : base ≤ g) (hbase : base ≤ w.heap.size) (hn : n ≤ 9223372036854775807) (hsz : l.length + (pAclsB L).length + 40 ≤ 140737488355328) :
    Calls Tryz.prog 44 #[.pointer (some ⟨g, 0, none⟩), .slice A n c] w fun e w' => e = .returned (.tuple #[]) ∧ ∃ v', Wrote base g v v' l (bInt n ++ pAclsB L) w w' := by
  have H := Lib.hid (pAcls_any base g v l A n c B L w h hr hB hg hbase hn hsz)
  clear h hr
  go_enter Tryz.func44, Tryz.ntmps44
  go_wp2_with (go_at_call 79; refine (H.out).mono ?_; rintro e w2 ⟨rfl, hb⟩; have HB := Lib.hid hb; clear hb)
  go_end0
  exact ⟨rfl, HB.out⟩
set_option maxRecDepth 100000 in
theorem aclPutIds_any (base g : Nat) (v : Value) (l : List UInt8) (A : Option Addr) (n c B : Nat) (L : List (ByteArray × ByteArray)) (w : World) (h : Wr w base g v l) (hr : Reads w B 2 A n (idCells L)) (hB : B ≤ base) (hg : base ≤ g) (hbase : base ≤ w.heap.size) (hn : n ≤ 9223372036854775807) (hsz : l.length + (pIdsB L).length + 40 ≤ 140737488355328) :
    Calls Tryz.prog 48 #[.pointer (some ⟨g, 0, none⟩), .slice A n c] w fun e w' => e = .returned (.tuple #[]) ∧ ∃ v', Wrote base g v v' l (bInt n ++ pIdsB L) w w' := by
  have H := Lib.hid (pIds_any base g v l A n c B L w h hr hB hg hbase hn hsz)
  clear h hr
  go_enter Tryz.func48, Tryz.ntmps48
  go_wp2_with (go_at_call 82; refine (H.out).mono ?_; rintro e w2 ⟨rfl, hb⟩; have HB := Lib.hid hb; clear hb)
  go_end0
  exact ⟨rfl, HB.out⟩
set_option maxRecDepth 100000 in
theorem header_any (base g : Nat) (v : Value) (l : List UInt8) (t : Int) (b : Bool) (w : World) (h : Wr w base g v l) (hbase : base ≤ w.heap.size) (hsz : l.length + 24 ≤ 140737488355328) :
    Calls Tryz.prog 49 #[.pointer (some ⟨g, 0, none⟩), .int .i32 t, .bool b] w fun e w' => e = .returned (.tuple #[]) ∧ ∃ v', Wrote base g v v' l (bInt t ++ bBool b ++ bInt (-1)) w w' := by
  have H0 := Lib.hid h
  clear h
  go_enter Tryz.func49, Tryz.ntmps49
  go_wp2_with (first
    | (go_at_call 40
       refine (wInt_any base g v l t _ H0.out (by omega) (by omega)).mono ?_
       rintro e w1 ⟨rfl, v1, hp⟩
       have HP1 := Lib.hid hp
       have hz1 := hp.size
       clear hp H0)
    | (go_at_call 46
       refine (wBool_any base g v1 _ b _ HP1.out.1 (by omega) (by rw [List.length_append, bInt_len]; omega)).mono ?_
       rintro e w2 ⟨rfl, v2, hp⟩
       have HP2 := Lib.hid (HP1.out.cat (Below.refl _ _) hp)
       have hz2 := hp.size
       clear hp HP1)
    | (go_at_call 40
       refine (wInt_any base g v2 _ (-1) _ HP2.out.1 (by omega) (by simp only [List.length_append, bInt_len, bBool, List.length_singleton]; omega)).mono ?_
       rintro e w3 ⟨rfl, v3, hp⟩
       have HP3 := Lib.hid (HP2.out.cat (Below.refl _ _) hp)
       clear hp HP2))
  go_end0
  exact ⟨rfl, v3, HP3.out⟩

end Go.Proofs.YtpjjnmdfgcfnmaaGreatDoor
