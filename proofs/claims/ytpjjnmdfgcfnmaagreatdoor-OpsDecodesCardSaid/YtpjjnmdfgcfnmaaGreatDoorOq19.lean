/- ops.Put: the fields of the types that hold no operations. (printed by gen_p19.py) -/
import Derived.Test.YtpjjnmdfgcfnmaaGreatDoorOq18
import Derived.Test.YtpjjnmdfgcfnmaaGreatDoorOqi
set_option linter.unusedVariables false
set_option linter.unusedSimpArgs false
namespace Go.Proofs.YtpjjnmdfgcfnmaaGreatDoor
open Go.RowKit

def pListsB (f : OpF) : List UInt8 := f.lists.flatMap fun L => bInt L.length ++ bTexts L
/-- the fields' bytes, of an operation that holds none -/
def fldB (f : OpF) : List UInt8 :=
  if f.t ∈ ([1, 15, 19] : List Int) then bBuf f.p.data.toList ++ bBuf f.l ++ (bInt f.L.length ++ pAclsB f.L) ++ bInt f.fl
  else if f.t ∈ ([21] : List Int) then bBuf f.p.data.toList ++ bBuf f.l ++ (bInt f.L.length ++ pAclsB f.L) ++ bInt f.fl ++ bLong f.tl
  else if f.t ∈ ([2, 13] : List Int) then bBuf f.p.data.toList ++ bInt f.ve
  else if f.t ∈ ([5] : List Int) then bBuf f.p.data.toList ++ bBuf f.l ++ bInt f.ve
  else if f.t ∈ ([7] : List Int) then bBuf f.p.data.toList ++ (bInt f.L.length ++ pAclsB f.L) ++ bInt f.ve
  else if f.t ∈ ([120] : List Int) then bBuf f.p.data.toList ++ bLong f.ct ++ bLong f.by_
  else if f.t ∈ ([121, 6, 9, 103, 104] : List Int) then bBuf f.p.data.toList
  else if f.t ∈ ([3, 4, 8, 12] : List Int) then bBuf f.p.data.toList ++ bBool f.wa
  else if f.t ∈ ([106, 18] : List Int) then bBuf f.p.data.toList ++ bInt f.fl
  else if f.t ∈ ([-10] : List Int) then bInt f.to ++ (bInt f.I.length ++ pIdsB f.I)
  else if f.t = 101 then bLong f.zx ++ pListsB f
  else []
/-- what a writing at w1 leaves -/
structure PutSt (w0 w w1 : World) (base g : Nat) (v : Value) (l : List UInt8) (cs : Array Value) : Prop where
  base0 : w0.heap.size ≤ base
  bg : base ≤ g
  b0 : Below w0.heap.size w0 w
  b1 : Below w.heap.size w w1
  bw : base ≤ w.heap.size
  z1 : w1.heap.size = w.heap.size + 1
  wr : Wr w1 base g v l
  blk : Blk w1 w.heap.size 29 cs
  ne : w.heap.size ∉ g :: v.ownBlock.toList
  own : ∀ x, v.ownBlock = some x → w0.heap.size ≤ x
theorem PutSt.mk' {w0 w : World} {base g : Nat} {v : Value} {l : List UInt8} (cs : Array Value) (hw : w0.heap.size ≤ base) (hg : base ≤ g) (hb0 : Below w0.heap.size w0 w) (hv : Wr w base g v l) (hbase : base ≤ w.heap.size) : PutSt w0 w (w.alloc (.cells cs 29)) base g v l cs where
  base0 := hw
  bg := hg
  b0 := hb0
  b1 := (Below.refl _ _).alloc (Nat.le_refl _) _
  bw := hbase
  z1 := by simp
  wr := hv.later ((Below.refl _ _).alloc (Nat.le_refl _) _)
  blk := Blk.new _ _ _
  ne := fun hx => by
    rcases List.mem_cons.1 hx with hx | hx
    · have := hv.lt
      omega
    · have := (hv.2.lt w.heap.size (by simpa using hx)).2
      omega
  own := fun x hx => Nat.le_trans hw (hv.2.lt x hx).1
section
variable {w0 w w1 W : World} {base g : Nat} {v v' : Value} {l k : List UInt8} {cs : Array Value}
theorem PutSt.cell (h : PutSt w0 w w1 base g v l cs) (hp : Wrote base g v v' l k w1 W) (j : Nat) {u : Value} (hu : cs[j]? = some u) : W.cell? ⟨w.heap.size, j, none⟩ = some u := blk_cell (h.blk.kp hp.2.1 h.ne) j hu
theorem PutSt.below (h : PutSt w0 w w1 base g v l cs) (hp : Wrote base g v v' l k w1 W) : Below w0.heap.size w0 W :=
  (h.b0.trans (h.b1.mono h.b0.size)).trans (hp.below (B := w0.heap.size) (Nat.le_trans h.base0 h.bg) h.own (Nat.le_trans h.b0.size h.b1.size))
theorem PutSt.le (h : PutSt w0 w w1 base g v l cs) (hp : Wrote base g v v' l k w1 W) : base ≤ W.heap.size := Nat.le_trans h.bw (Nat.le_trans h.b1.size hp.size)
end

set_option maxRecDepth 100000 in
set_option maxHeartbeats 20000000 in
theorem put_g2 {w0 w : World} {lo : Option Nat} (t : Int) (htt : t ∈ ([2, 13] : List Int)) (f : OpF) (d a k0 k1 k2 k3 k4 i s : Sl) (base g : Nat) (v : Value) (l : List UInt8) (ht : f.t = t) (h : FAt w0 lo f d a k0 k1 k2 k3 k4 i) (hw : w0.heap.size ≤ base) (hg : base ≤ g) (hb0 : Below w0.heap.size w0 w) (hv : Wr w base g v l) (hbase : base ≤ w.heap.size) (hsz : l.length + (fldB f).length + 64 ≤ 140737488355328) :
    Calls Tryz.prog 23 #[.pointer (some ⟨g, 0, none⟩), .agg (f.row d a k0 k1 k2 k3 k4 i s).toArray] w fun e w' => e = .returned (.tuple #[]) ∧ ∃ v', Wrote base g v v' l (fldB f) w w' := by
  have hfb : fldB f = bBuf f.p.data.toList ++ bInt f.ve := by
    unfold fldB
    rw [ht]
    clear ht
    simp only [List.mem_cons, List.not_mem_nil, or_false] at htt
    rcases htt with rfl | rfl <;> rfl
  rw [hfb] at hsz ⊢
  clear hfb
  have HS0 := PutSt.mk' (f.row d a k0 k1 k2 k3 k4 i s).toArray hw hg hb0 hv hbase
  obtain ⟨w1, hw1⟩ : ∃ w1, w.alloc (.cells (f.row d a k0 k1 k2 k3 k4 i s).toArray 29) = w1 := ⟨_, rfl⟩
  rw [hw1] at HS0
  have HS := Lib.hid HS0
  have HF := Lib.hid h
  have HP0 : Hid (Wrote base g v v l [] w1 w1) := Wrote.start HS0.wr
  have d0 := HS0.cell HP0.out 0 (u := .int .i32 t) (by rw [← ht]; rfl)
  have d1 := HS0.cell HP0.out 1 (u := .string f.p) rfl
  have hla := h.a.len
  have hli := h.i.len
  simp only [List.length_append, bBuf_len, bInt_len, bLong_len, bBool, List.length_singleton, List.length_nil, ← bsize_eq] at hsz
  obtain ⟨cs, hcs⟩ : ∃ cs : Array Value, cs = (f.row d a k0 k1 k2 k3 k4 i s).toArray := ⟨_, rfl⟩
  rw [← hcs] at hw1 ⊢
  clear HS0 h hw hg hb0 hv hbase ht hcs
  obtain ⟨n0, n1, n2, n3, n4, n5, n6, n7, n8, n9, n10, n11, n12, n13, n14, n15, n16, n17, n18, n19, n20, n21, _⟩ := sw_all (cs := [1, 15, 19, 21, 5, 7, 120, 121, 6, 9, 103, 104, 3, 4, 8, 12, 101, 106, 18, (-10), 14, 22]) htt rfl
  have S : ((t == 2) = true) ∨ ((t == 2) = false ∧ (t == 13) = true) := by
    simp only [List.mem_cons, List.not_mem_nil, or_false] at htt
    rcases htt with rfl | rfl <;> decide
  clear htt
  rcases S with s0 | ⟨s0, s1⟩
  all_goals
    go_enter Tryz.func23, Tryz.ntmps23
    go_wp2_with (first
      | (go_at_call 42
         refine (wText_any base g v _ f.p _ HP0.out.1 (HS.out.le HP0.out) (by simp only [List.length_append, bBuf_len, bInt_len, bLong_len, bBool, List.length_singleton, List.length_nil, ← bsize_eq]; omega)).mono ?_
         rintro e w2 ⟨rfl, v1, hp⟩
         have HP1 := Lib.hid (HP0.out.cat (Below.refl _ _) hp)
         clear hp
         have d5 := HS.out.cell HP1.out 5 (u := .int .i32 f.ve) rfl
         clear HP0 d1)
      | (go_at_call 40
         refine (wInt_any base g v1 _ _ _ HP1.out.1 (HS.out.le HP1.out) (by simp only [List.length_append, bBuf_len, bInt_len, bLong_len, bBool, List.length_singleton, List.length_nil, ← bsize_eq]; omega)).mono ?_
         rintro e w3 ⟨rfl, v2, hp⟩
         have HP2 := Lib.hid (HP1.out.cat (Below.refl _ _) hp)
         clear hp
         clear HP1 d5))
    go_end0
    have HPE := HP2.out
    exact ⟨rfl, v2, HPE.from HS.out.b1⟩
end Go.Proofs.YtpjjnmdfgcfnmaaGreatDoor
