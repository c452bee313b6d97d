/- ops.Put: the fields of any operation, with all that stands in it. (printed by gen_p20.py) -/
import Derived.Test.YtpjjnmdfgcfnmaaGreatDoorOq19
import Derived.Test.YtpjjnmdfgcfnmaaGreatDoorOqi
set_option linter.unusedVariables false
set_option linter.unusedSimpArgs false
namespace Go.Proofs.YtpjjnmdfgcfnmaaGreatDoor
open Go.RowKit

def hdrB (t : Int) (b : Bool) : List UInt8 := bInt t ++ bBool b ++ bInt (-1)
theorem hdrB_len (t : Int) (b : Bool) : (hdrB t b).length = 9 := by
  unfold hdrB
  simp [bInt_len, bBool]
mutual
/-- the bytes of an operation's fields -/
def OpC.putB : OpC → List UInt8
  | .mk f S => if f.t = 14 ∨ f.t = 22 then subsB S ++ hdrB (-1) true else fldB f
def subsB : List OpC → List UInt8
  | [] => []
  | x :: r => (hdrB x.f.t false ++ x.putB) ++ subsB r
end
end Go.Proofs.YtpjjnmdfgcfnmaaGreatDoor
/- ops.Encode. -/
namespace Go.Proofs.YtpjjnmdfgcfnmaaGreatDoor
open Go.RowKit

theorem bTexts_le (L : List ByteArray) : (bTexts L).length ≤ 4 * bulkS L := by
  unfold bTexts bulkS
  induction L with
  | nil => simp
  | cons x r ih =>
    rw [List.flatMap_cons, List.length_append, List.map_cons, List.sum_cons, bBuf_len, ← bsize_eq]
    omega
theorem pIdsB_le (L : List (ByteArray × ByteArray)) : (pIdsB L).length ≤ 3 * bulkI L := by
  unfold pIdsB bulkI
  induction L with
  | nil => simp
  | cons x r ih =>
    rw [List.flatMap_cons, List.length_append, List.map_cons, List.sum_cons, pIdB_len]
    omega
theorem pAclsB_le (L : List AclT) : (pAclsB L).length ≤ 3 * bulkA L := by
  unfold pAclsB bulkA
  induction L with
  | nil => simp
  | cons x r ih =>
    rw [List.flatMap_cons, List.length_append, List.map_cons, List.sum_cons, pAclB_len]
    omega
set_option maxHeartbeats 2000000 in
theorem fldB_le (f : OpF) : (fldB f).length + 18 ≤ 5 * f.bulk := by
  have h0 := bTexts_le f.K0
  have h1 := bTexts_le f.K1
  have h2 := bTexts_le f.K2
  have h3 := bTexts_le f.K3
  have h4 := bTexts_le f.K4
  have h5 := pIdsB_le f.I
  have h6 := pAclsB_le f.L
  have hs := bsize_eq f.p
  have h7 : (pListsB f).length = 20 + (bTexts f.K0).length + (bTexts f.K1).length + (bTexts f.K2).length + (bTexts f.K3).length + (bTexts f.K4).length := by
    unfold pListsB OpF.lists
    simp only [List.flatMap_cons, List.flatMap_nil, List.length_append, bInt_len, List.length_nil]
    omega
  have hb : f.bulk = 20 + f.p.size + f.l.length + bulkA f.L + bulkS f.K0 + bulkS f.K1 + bulkS f.K2 + bulkS f.K3 + bulkS f.K4 + bulkI f.I := rfl
  rw [hb]
  clear hb
  obtain ⟨n7, h8⟩ : ∃ n, n = (pListsB f).length := ⟨_, rfl⟩
  generalize bulkA f.L = b1 at h6
  generalize bulkI f.I = b2 at h5
  unfold fldB
  split
  · simp only [List.length_append, bBuf_len, bInt_len, bLong_len, bBool, List.length_singleton, List.length_nil, ← bsize_eq]
    omega
  split
  · simp only [List.length_append, bBuf_len, bInt_len, bLong_len, bBool, List.length_singleton, List.length_nil, ← bsize_eq]
    omega
  split
  · simp only [List.length_append, bBuf_len, bInt_len, bLong_len, bBool, List.length_singleton, List.length_nil, ← bsize_eq]
    omega
  split
  · simp only [List.length_append, bBuf_len, bInt_len, bLong_len, bBool, List.length_singleton, List.length_nil, ← bsize_eq]
    omega
  split
  · simp only [List.length_append, bBuf_len, bInt_len, bLong_len, bBool, List.length_singleton, List.length_nil, ← bsize_eq]
    omega
  split
  · simp only [List.length_append, bBuf_len, bInt_len, bLong_len, bBool, List.length_singleton, List.length_nil, ← bsize_eq]
    omega
  split
  · simp only [List.length_append, bBuf_len, bInt_len, bLong_len, bBool, List.length_singleton, List.length_nil, ← bsize_eq]
    omega
  split
  · simp only [List.length_append, bBuf_len, bInt_len, bLong_len, bBool, List.length_singleton, List.length_nil, ← bsize_eq]
    omega
  split
  · simp only [List.length_append, bBuf_len, bInt_len, bLong_len, bBool, List.length_singleton, List.length_nil, ← bsize_eq]
    omega
  split
  · simp only [List.length_append, bBuf_len, bInt_len, bLong_len, bBool, List.length_singleton, List.length_nil, ← bsize_eq]
    omega
  split
  · rename_i h101
    have : pListsB f = pListsB f := rfl
    simp only [List.length_append, bLong_len]
    omega
  · simp only [List.length_nil]
    omega
mutual
theorem OpC.putB_le : ∀ x : OpC, x.putB.length + 9 ≤ 5 * x.bulk
  | .mk f S => by
    have h1 := fldB_le f
    have h2 := subsB_le S
    rw [OpC.putB, OpC.bulk]
    have h3 : 20 ≤ f.bulk := by unfold OpF.bulk; omega
    split
    · rw [List.length_append, hdrB_len]; omega
    · omega
theorem subsB_le : ∀ S : List OpC, (subsB S).length ≤ 5 * bulkL S
  | [] => by rw [subsB, bulkL]; simp
  | x :: r => by
    have h1 := OpC.putB_le x
    have h2 := subsB_le r
    rw [subsB, bulkL]
    simp only [List.length_append, hdrB_len]
    omega
end
/-- the error of a request that is to be written -/
def OpC.encE (x : OpC) : Int := if x.rightE ≠ 0 then x.rightE else if kindN x.f.t = 5 then 110 else 0
/-- a request's bytes -/
def encB (xid : Int) (x : OpC) : List UInt8 := bInt xid ++ bInt x.f.t ++ x.putB
/-- what Encode answers -/
def Encoded (w : World) (xid : Int) (x : OpC) (e : Ending) (w' : World) : Prop :=
  Below w.heap.size w w' ∧ ((x.encE ≠ 0 ∧ e = .returned (.tuple #[.slice none 0 0, .int .i64 x.encE])) ∨
    (x.encE = 0 ∧ ∃ base A c, w.heap.size ≤ base ∧ e = .returned (.tuple #[.slice A (encB xid x).length c, .int .i64 0]) ∧ w'.ownsRow base 5 1 (.slice A (encB xid x).length c) (encB xid x).length (bcells (encB xid x))))
set_option maxRecDepth 100000 in
set_option maxHeartbeats 4000000 in
theorem encode_of {w : World} {lo : Option Nat} {x : OpC} {xs : List Value} (xid : Int) (h : At w lo x xs) (hb : x.bulk ≤ 1000000000) (HR0 : ∀ W, Below w.heap.size w W → Calls Tryz.prog 13 #[.agg xs.toArray] W fun e w' => e = .returned (.int .i64 x.rightE) ∧ Below W.heap.size W w') (HP0 : ∀ (W : World) (base g : Nat) (v : Value) (l : List UInt8), w.heap.size ≤ base → base ≤ g → Below w.heap.size w W → Wr W base g v l → base ≤ W.heap.size → l.length + x.putB.length + 64 ≤ 140737488355328 →
    Calls Tryz.prog 23 #[.pointer (some ⟨g, 0, none⟩), .agg xs.toArray] W fun e w' => e = .returned (.tuple #[]) ∧ ∃ v', Wrote base g v v' l x.putB W w') :
    Calls Tryz.prog 21 #[.agg (.int .i32 xid :: xs).toArray] w (Encoded w xid x) := by
  have HR := Lib.hid HR0
  have HP := Lib.hid HP0
  have HK : Hid (∀ W, Calls Tryz.prog 11 #[.int .i32 x.f.t] W fun e w' => e = .returned (.int .i64 (kindN x.f.t)) ∧ w' = W) := fun W => kind_any x.f.t W
  have hpl := x.putB_le
  have hx0 := h.c0
  have h19 := h.len
  have HI19 : Hid ((Tryz.prog.info? 29).map (·.size) = some xs.length) := by unfold Hid; rw [h19]; exact isz_29
  obtain ⟨cs, hcs⟩ : ∃ cs : Array Value, cs = (Value.int .i32 xid :: xs).toArray := ⟨_, rfl⟩
  rw [← hcs]
  obtain ⟨w1, hw1⟩ : ∃ w1, w.alloc (.cells cs 44) = w1 := ⟨_, rfl⟩
  have hb1 : Below w.heap.size w w1 := by rw [← hw1]; exact (Below.refl _ _).alloc (Nat.le_refl _) _
  have hn1 : Blk w1 w.heap.size 44 (Value.int .i32 xid :: xs).toArray := by rw [← hcs, ← hw1]; exact Blk.new _ _ _
  have HB1 := Lib.hid hb1
  have HN1 := Lib.hid hn1
  have HRW : Hid (∀ W, Blk W w.heap.size 44 (Value.int .i32 xid :: xs).toArray → ∀ j v, xs[j]? = some v → W.cell? ((⟨w.heap.size, 1, none⟩ : Addr).add j) = some v) := fun W hB j v hv => by
    rw [Go.WideShapes.add_plain, Nat.add_comm]
    exact blk_cell hB (j + 1) (by simpa using hv)
  have HRW1 : Hid (∀ j v, xs[j]? = some v → w1.cell? ((⟨w.heap.size, 1, none⟩ : Addr).add j) = some v) := HRW.out w1 hn1
  have HX0 : Hid ((Value.int .i32 xid :: xs).toArray[1]? = some (.int .i32 x.f.t)) := by unfold Hid; simpa using hx0
  obtain ⟨re, hre⟩ : ∃ z, z = x.rightE := ⟨_, rfl⟩
  obtain ⟨kn, hkn⟩ : ∃ z, z = kindN x.f.t := ⟨_, rfl⟩
  obtain ⟨xt, hxt⟩ : ∃ z, z = x.f.t := ⟨_, rfl⟩
  obtain ⟨pb, hpb⟩ : ∃ z, z = x.putB := ⟨_, rfl⟩
  have hEE : x.encE = if re ≠ 0 then re else if kn = 5 then 110 else 0 := by unfold OpC.encE; rw [← hre, ← hkn]
  have hpn : pb.length ≤ 5000000000 := by rw [hpb]; omega
  obtain ⟨K, hK⟩ : ∃ K, K = bInt xid ++ bInt xt ++ pb := ⟨_, rfl⟩
  have hEB : encB xid x = K := by unfold encB; rw [← hxt, ← hpb, ← hK]
  have hKl : K.length ≤ 5000000008 := by rw [hK]; simp only [List.length_append, bInt_len]; omega
  have HK7 := Lib.hid hK
  rw [← hre] at HR
  rw [← hkn, ← hxt] at HK
  rw [← hxt] at HX0
  rw [← hpb] at HP hpl
  unfold Encoded
  rw [hEE, hEB]
  clear hcs h hb hb1 hn1 hre hkn hxt hpb hEE hEB hpl hx0 h19 hK HR0 HP0
  by_cases ho : re = 0
  rotate_left
  · rw [if_pos ho]
    have hob : (re != 0) = true := by simpa using ho
    have HO := Lib.hid ho
    clear ho HP HK
    go_enter Tryz.func21, Tryz.ntmps21
    go_wp2_with (first
      | (refine wpList_load_at (by rfl) 29 (.tmp 6) rfl ⟨w.heap.size, 1, none⟩ rfl xs _ HRW1.out Tryz.underlying29 rfl HI19.out ?_)
      | (go_at_call 13
         refine (HR.out _ HB1.out).mono ?_
         rintro e w3 ⟨rfl, hb⟩
         have HB3 : Hid (Below w.heap.size w w3) := HB1.out.trans (hb.mono HB1.out.size)
         clear hb))
    go_ret2
    exact ⟨HB3.out, .inl ⟨HO.out, rfl⟩⟩
  rw [if_neg (by simpa using ho)]
  subst ho
  by_cases hk5 : kn = 5
  · rw [if_pos hk5]
    subst hk5
    clear HP
    go_enter Tryz.func21, Tryz.ntmps21
    go_wp2_with (first
      | (refine wpList_load_at (by rfl) 29 (.tmp 6) rfl ⟨w.heap.size, 1, none⟩ rfl xs _ HRW1.out Tryz.underlying29 rfl HI19.out ?_)
      | (go_at_call 13
         refine (HR.out _ HB1.out).mono ?_
         rintro e w3 ⟨rfl, hb⟩
         have HB3 : Hid (Below w.heap.size w w3) := HB1.out.trans (hb.mono HB1.out.size)
         have d1 := blk_cell (HN1.out.below hb HN1.out.lt) 1 HX0.out
         clear hb)
      | (go_at_call 11; refine (HK.out _).mono ?_; rintro e w4 ⟨rfl, he⟩; obtain rfl := he.symm))
    go_ret2
    exact ⟨HB3.out, .inl ⟨by decide, rfl⟩⟩
  rw [if_neg hk5]
  have hkb : (kn == 5) = false := by simpa using hk5
  clear hk5
  go_enter Tryz.func21, Tryz.ntmps21
  go_wp2_with (first
    | (refine wpList_load_at (by rfl) 29 (.tmp 6) rfl ⟨w.heap.size, 1, none⟩ rfl xs _ HRW1.out Tryz.underlying29 rfl HI19.out ?_)
    | (go_at_call 13
       refine (HR.out _ HB1.out).mono ?_
       rintro e w2 ⟨rfl, hb⟩
       have HB2 : Hid (Below w.heap.size w w2) := HB1.out.trans (hb.mono HB1.out.size)
       have HN2 := Lib.hid (HN1.out.below hb HN1.out.lt)
       have d1 := blk_cell HN2.out 1 HX0.out
       obtain ⟨w3, hw3⟩ : ∃ w3, w2.alloc (.cells #[.slice none 0 0] 50) = w3 := ⟨_, rfl⟩
       have hb23 : Below w2.heap.size w2 w3 := (by rw [← hw3]; exact (Below.refl _ _).alloc (Nat.le_refl _) _)
       have HW3 : Hid (Wr w3 w2.heap.size w2.heap.size (.slice none 0 0) []) := ⟨by rw [← hw3]; exact Blk.new _ _ _, World.ownsRow_nil _ _ _ _⟩
       have HB23 := Lib.hid hb23
       have HN3 := Lib.hid (HN2.out.below hb23 HN2.out.lt)
       have c0 := blk_cell HN3.out 0 (u := .int .i32 xid) rfl
       have hlt := HN2.out.lt
       have HNE : Hid (w.heap.size ∉ w2.heap.size :: (Value.slice none 0 0).ownBlock.toList) := (fun hx => by
         rcases List.mem_cons.1 hx with hx | hx
         · omega
         · simp [Value.ownBlock] at hx)
       clear hb hb23)
    | (go_at_call 11; refine (HK.out _).mono ?_; rintro e w4 ⟨rfl, he⟩; obtain rfl := he.symm; clear d1)
    | (go_at_call 40
       refine (wInt_any w2.heap.size w2.heap.size _ [] xid _ HW3.out HB23.out.size (by simp)).mono ?_
       rintro e w4 ⟨rfl, v4, hp⟩
       have HP4 := Lib.hid hp
       have e1 := blk_cell (HN3.out.kp hp.2.1 HNE.out) 1 HX0.out
       have hz4 := Nat.le_trans HB23.out.size hp.size
       clear hp c0)
    | (go_at_call 40
       refine (wInt_any w2.heap.size w2.heap.size _ _ xt _ HP4.out.1 hz4 (by simp only [List.length_append, bInt_len, List.length_nil]; omega)).mono ?_
       rintro e w5 ⟨rfl, v5, hp⟩
       have HP5 := Lib.hid (HP4.out.cat (Below.refl _ _) hp)
       have HR5 : Hid (∀ j v, xs[j]? = some v → w5.cell? ((⟨w.heap.size, 1, none⟩ : Addr).add j) = some v) := HRW.out _ (HN3.out.kp HP5.out.2.1 HNE.out)
       have hz5 := Nat.le_trans hz4 hp.size
       clear hp e1 HP4)
    | (refine wpList_load_at (by rfl) 29 (.tmp 29) rfl ⟨w.heap.size, 1, none⟩ rfl xs _ HR5.out Tryz.underlying29 rfl HI19.out ?_)
    | (go_at_call 23
       refine (HP.out _ w2.heap.size w2.heap.size _ _ HB2.out.size (Nat.le_refl _) (HB2.out.trans ((HB23.out.trans (HP5.out.below (Nat.le_refl _) (fun x hx => by simp [Value.ownBlock] at hx) HB23.out.size)).mono HB2.out.size)) HP5.out.1 hz5 (by simp only [List.length_append, bInt_len, List.length_nil]; omega)).mono ?_
       rintro e w6 ⟨rfl, v6, hp⟩
       have HP6 : Hid (Wrote w2.heap.size w2.heap.size (.slice none 0 0) v6 [] K w3 w6) := (by unfold Hid; rw [HK7.out]; exact HP5.out.cat (Below.refl _ _) hp)
       clear hp HP5 HR5)
    | (go_at_call 25
       refine (wBytes_any w2.heap.size w2.heap.size v6 K _ HP6.out.1 (by omega)).mono ?_
       rintro e w7 ⟨A7, c7, rfl, ho, hb⟩
       have HO7 := Lib.hid ho
       have HB7 := Lib.hid hb
       clear ho hb))
  go_ret2
  have hB6 : Below w.heap.size w w6 := HB2.out.trans ((HB23.out.trans (HP6.out.below (Nat.le_refl _) (fun x hx => by simp [Value.ownBlock] at hx) HB23.out.size)).mono HB2.out.size)
  exact ⟨hB6.trans (HB7.out.mono hB6.size), (by first | exact .inr ⟨trivial, w6.heap.size, A7, c7, hB6.size, rfl, HO7.out⟩ | exact .inr ⟨rfl, w6.heap.size, A7, c7, hB6.size, rfl, HO7.out⟩)⟩
end Go.Proofs.YtpjjnmdfgcfnmaaGreatDoor
