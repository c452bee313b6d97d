/- A node's record: the program's walk: a permission, the list of them, the fields' places. -/
import Derived.Test.YtaojjjcaofhmcaaDoorSt
import Derived.Test.YtaojjjcaofhmcaaDoorSr1
set_option linter.unusedVariables false
set_option linter.unusedSimpArgs false
namespace Go.Proofs.YtaojjjcaofhmcaaDoor
open Go.RowKit

def aclB (a : AclT) : List UInt8 := bInt a.1 ++ bBuf a.2.1.data.toList ++ bBuf a.2.2.data.toList
def aclsB (L : List AclT) : List UInt8 := L.flatMap aclB
theorem aclB_len (a : AclT) : (aclB a).length = 12 + a.2.1.size + a.2.2.size := by
  simp only [aclB, List.length_append, bInt_len, bBuf_len, bsize_eq]; omega
theorem aclsB_snoc (L : List AclT) (k : Nat) (h : k < L.length) : aclsB (L.take (k + 1)) = aclsB (L.take k) ++ aclB L[k] := by
  unfold aclsB; rw [List.take_succ_eq_append_getElem h, List.flatMap_append]; simp
theorem aclsB_split (L : List AclT) (k : Nat) (h : k < L.length) : (aclsB L).length = (aclsB (L.take k)).length + (aclB L[k]).length + (aclsB (L.drop (k + 1))).length := by
  have e : aclsB L = aclsB (L.take (k + 1)) ++ aclsB (L.drop (k + 1)) := by unfold aclsB; rw [← List.flatMap_append, List.take_append_drop]
  rw [e, List.length_append, aclsB_snoc L k h, List.length_append]

set_option maxRecDepth 100000 in
set_option maxHeartbeats 1000000 in
theorem putAcl_any (base g : Nat) (v : Value) (l : List UInt8) (z : Int) (s i : ByteArray) (w : World) (h : Wr w base g v l) (hbase : base ≤ w.heap.size) (hsz : l.length + s.size + i.size + 24 ≤ 140737488355328) :
    Calls Tryd.prog 48 #[.pointer (some ⟨g, 0, none⟩), .agg #[.int .i32 z, .string s, .string i]] w fun e w' => e = .returned (.tuple #[]) ∧ ∃ v', Wrote base g v v' l (aclB (z, s, i)) w w' := by
  obtain ⟨w1, hw1⟩ : ∃ w1, w.alloc (.cells #[.int .i32 z, .string s, .string i] 57) = w1 := ⟨_, rfl⟩
  have hb1 : Below w.heap.size w w1 := by rw [← hw1]; exact (Below.refl _ _).alloc (Nat.le_refl _) _
  have hS : Blk w1 w.heap.size 57 #[.int .i32 z, .string s, .string i] := by rw [← hw1]; exact Blk.new _ _ _
  have hgl := h.lt
  have HB1 := Lib.hid hb1
  have HS := Lib.hid hS
  have H0 : Hid (Wrote base g v v l [] w w1) := (Wrote.start h).later hb1
  have HW := Lib.hid h
  have hz1 := hb1.size
  have k0 := lit_cell hS 0 rfl
  clear h hb1 hS
  go_enter Tryd.func48, Tryd.ntmps48
  go_wp2_with (go_at_call 33; refine (wInt_any base g v _ z w1 H0.out.1 (by omega) (by simp; omega)).mono ?_; rintro e w2 ⟨rfl, v2, hp⟩; have hz2 := hp.size; have H2 := Lib.hid (H0.out.cat (Below.refl _ _) hp); have k1 := lit_cell (HS.out.wrote H0.out.1 hp (by omega) (by decide)) 1 rfl; have HS2 := Lib.hid (HS.out.wrote H0.out.1 hp (by omega) (by decide)); clear hp; refine Hid.out ?_)
  clear k0
  refine Lib.hid ?_
  go_wp2_with (go_at_call 45; refine (wText_any base g v2 _ s w2 H2.out.1 (by omega) (by simp [bInt_len]; omega)).mono ?_; rintro e w3 ⟨rfl, v3, hp⟩; have hz3 := hp.size; have H3 := Lib.hid (H2.out.cat (Below.refl _ _) hp); have k2 := lit_cell (HS2.out.wrote H2.out.1 hp (by omega) (by decide)) 2 rfl; clear hp; refine Hid.out ?_)
  clear k1
  refine Lib.hid ?_
  go_wp2_with (go_at_call 45; refine (wText_any base g v3 _ i w3 H3.out.1 (by omega) (by simp [bInt_len, bBuf_len, ← bsize_eq]; omega)).mono ?_; rintro e w4 ⟨rfl, v4, hp⟩; have H4 := Lib.hid (H3.out.cat (Below.refl _ _) hp); clear hp)
  go_end0
  refine ⟨rfl, v4, ?_⟩
  have h4 := H4.out
  rw [show ([] ++ bInt z ++ bBuf s.data.toList ++ bBuf i.data.toList) = aclB (z, s, i) by simp [aclB]] at h4
  exact h4

theorem aclfn_ne (w : World) : (binOp .eql 95 (.func (.func 48) #[] #[]) .nilFunc).run Tryd.prog w = .ok (.bool false) w := by kernel_rfl

set_option maxRecDepth 100000 in
set_option maxHeartbeats 1000000 in
theorem wAcls_any (base g : Nat) (v : Value) (l : List UInt8) (A : Option Addr) (n c B : Nat) (L : List AclT) (w : World) (h : Wr w base g v l) (hr : Reads w B 3 A n (aclCells L)) (hB : B ≤ base) (hg : base ≤ g) (hbase : base ≤ w.heap.size) (hn : n ≤ 9223372036854775807) (hsz : l.length + (aclsB L).length + 24 ≤ 140737488355328) :
    Calls Tryd.prog 47 #[.pointer (some ⟨g, 0, none⟩), .slice A n c, .func (.func 48) #[] #[]] w fun e w' => e = .returned (.tuple #[]) ∧ ∃ v', Wrote base g v v' l (bInt n ++ aclsB L) w w' := by
  have hl : L.length = n := by have := hr.1; rw [aclCells_length] at this; omega
  subst hl
  have HL := Lib.hid (h.2.lt)
  have H0 := Lib.hid h
  have HR := Lib.hid hr
  clear h hr
  have hnf := aclfn_ne
  go_enter Tryd.func47, Tryd.ntmps47
  go_wp2_with (first
    | (go_at_call 87; refine (wCount_any base g v l _ _ H0.out hbase (by omega)).mono ?_; rintro e w1 ⟨rfl, v1, hp⟩; have HP := Lib.hid hp; clear hp))
  go_loopw [16] (fun i wr => ∃ (k : Nat) (v2 : Value), k ≤ L.length ∧ i = .int .i64 k ∧ Wrote base g v v2 l (bInt L.length ++ aclsB (L.take k)) w wr) (fun i _ => L.length - (intOf i).toNat)
  case atStart => exact ⟨0, v1, Nat.zero_le _, rfl, by simpa [aclsB] using HP.out⟩
  case round =>
    clear HP
    obtain ⟨k, v2, hk, rfl, hW⟩ := hrel
    have hbw := hW.below (B := B) (by omega) (fun x hx => by have := (HL.out x hx).1; omega) (by omega)
    have hsz1 := hW.size
    have HW := Lib.hid hW
    by_cases hlt : k < L.length
    · obtain ⟨b, off, rfl, _, hx⟩ := (HR.out.below hbw).plain (by omega) (by omega)
      obtain ⟨g0, g1, g2⟩ := aclCells_get L k hlt
      have x0 := hx _ _ g0
      have x1 := hx _ _ g1
      have x2 := hx _ _ g2
      simp only [← Nat.add_assoc] at x1 x2
      have hsp := aclsB_split L k hlt
      have HE := Lib.hid (aclsB_snoc L k hlt)
      obtain ⟨a, haL⟩ : ∃ a, a = L[k] := ⟨_, rfl⟩
      have HAL : Hid (aclB L[k] = aclB a) := by unfold Hid; rw [haL]
      rw [← haL, aclB_len] at hsp
      rw [← haL] at x0 x1 x2
      obtain ⟨q0, q1, q2⟩ := a
      dsimp only at x0 x1 x2 hsp
      have hb2 : ∀ o, Below wr.heap.size wr (wr.alloc o) := fun o => (Below.refl _ _).alloc (Nat.le_refl _) _
      have HB2 := Lib.hid hb2
      have HLN : Hid ((l ++ (bInt L.length ++ aclsB (L.take k))).length + q1.size + q2.size + 24 ≤ 140737488355328) := by
        unfold Hid; rw [List.length_append, List.length_append, bInt_len]; omega
      clear hx g0 g1 g2 hbw hW haL hb2 hsp
      go_wp2_with (go_at_call 48; refine (putAcl_any base g v2 _ q0 q1 q2 _ (HW.out.1.later (HB2.out _)) (by simp; omega) HLN.out).mono ?_; rintro e w2 ⟨rfl, v3, hp⟩; have HP := Lib.hid (HW.out.cat (HB2.out _) hp); clear hp)
      go_roundw
      case rel => exact ⟨k + 1, v3, by omega, by go_num, by rw [HE.out, ← List.append_assoc, HAL.out]; exact HP.out⟩
      case measure => simp [intOf]; omega
    · have hkl : k = L.length := by omega
      have HK := Lib.hid hkl
      clear hkl hbw hW
      go_wp2
      go_end0
      have hW := HW.out
      rw [HK.out, List.take_of_length_le (Nat.le_refl _)] at hW
      exact ⟨rfl, v2, hW⟩

/-- pointers to the cells of block b from place i on -/
def ptrs (b i n : Nat) : Array Value := ((List.range n).map fun j => Value.pointer (some ⟨b, i + j, none⟩)).toArray
theorem ptrs_get (b i n j : Nat) (h : j < n) : (ptrs b i n)[j]? = some (.pointer (some ⟨b, i + j, none⟩)) := by
  simp [ptrs, h]

set_option maxRecDepth 100000 in
set_option maxHeartbeats 2000000 in
theorem steps_any (b : Nat) (w : World) :
    Calls Tryd.prog 49 #[.pointer (some ⟨b, 0, none⟩)] w fun e w' => ∃ b1 b2, e = .returned (.tuple #[.slice (some ⟨b1, 0, none⟩) 8 8, .slice (some ⟨b2, 0, none⟩) 3 3]) ∧ w.heap.size ≤ b1 ∧ w.heap.size ≤ b2 ∧
      Blk w' b1 101 (ptrs b 3 8) ∧ Blk w' b2 102 (ptrs b 11 3) ∧ Below w.heap.size w w' := by
  go_enter Tryd.func49, Tryd.ntmps49
  go_wp2
  go_region
  all_goals (
    go_wp2
    go_ret2)
  · exact ⟨w.heap.size, w.heap.size + 1, rfl, Nat.le_refl _, Nat.le_succ _, (Blk.new w 101 (ptrs b 3 8)).alloc _, Blk.new' (w := w.alloc (.cells (ptrs b 3 8) 101)) (cs := ptrs b 11 3) (by simp), (((Below.refl _ _).alloc (Nat.le_refl _) _).alloc (by simp) _).drew⟩
  · exact ⟨w.heap.size + 1, w.heap.size, rfl, Nat.le_succ _, Nat.le_refl _, Blk.new' (w := w.alloc (.cells (ptrs b 11 3) 102)) (cs := ptrs b 3 8) (by simp), (Blk.new w 102 (ptrs b 11 3)).alloc _, (((Below.refl _ _).alloc (Nat.le_refl _) _).alloc (by simp) _).drew⟩
end Go.Proofs.YtaojjjcaofhmcaaDoor
