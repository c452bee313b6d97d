/- ops.Put: the fields of the types that hold no operations. (printed by gen_p19.py) -/
import Derived.Test.YtpjjnmdfgcfnmaaGreatDoorOq18
import Derived.Test.YtpjjnmdfgcfnmaaGreatDoorOqi
set_option linter.unusedVariables false
set_option linter.unusedSimpArgs false
namespace Go.Proofs.YtpjjnmdfgcfnmaaGreatDoor
open Go.RowKit

def pListsB (f : OpF) : List UInt8 := f.lists.flatMap fun L => bInt L.length ++ bTexts L
/-- the fields' bytes, of an operation that holds none -/
def fldB (f : OpF) : List UInt8 :=
  if f.t ∈ ([1, 15, 19] : List Int) then bBuf f.p.data.toList ++ bBuf f.l ++ (bInt f.L.length ++ pAclsB f.L) ++ bInt f.fl
  else if f.t ∈ ([21] : List Int) then bBuf f.p.data.toList ++ bBuf f.l ++ (bInt f.L.length ++ pAclsB f.L) ++ bInt f.fl ++ bLong f.tl
  else if f.t ∈ ([2, 13] : List Int) then bBuf f.p.data.toList ++ bInt f.ve
  else if f.t ∈ ([5] : List Int) then bBuf f.p.data.toList ++ bBuf f.l ++ bInt f.ve
  else if f.t ∈ ([7] : List Int) then bBuf f.p.data.toList ++ (bInt f.L.length ++ pAclsB f.L) ++ bInt f.ve
  else if f.t ∈ ([120] : List Int) then bBuf f.p.data.toList ++ bLong f.ct ++ bLong f.by_
  else if f.t ∈ ([121, 6, 9, 103, 104] : List Int) then bBuf f.p.data.toList
  else if f.t ∈ ([3, 4, 8, 12] : List Int) then bBuf f.p.data.toList ++ bBool f.wa
  else if f.t ∈ ([106, 18] : List Int) then bBuf f.p.data.toList ++ bInt f.fl
  else if f.t ∈ ([-10] : List Int) then bInt f.to ++ (bInt f.I.length ++ pIdsB f.I)
  else if f.t = 101 then bLong f.zx ++ pListsB f
  else []
/-- what a writing at w1 leaves -/
structure PutSt (w0 w w1 : World) (base g : Nat) (v : Value) (l : List UInt8) (cs : Array Value) : Prop where
  base0 : w0.heap.size ≤ base
  bg : base ≤ g
  b0 : Below w0.heap.size w0 w
  b1 : Below w.heap.size w w1
  bw : base ≤ w.heap.size
  z1 : w1.heap.size = w.heap.size + 1
  wr : Wr w1 base g v l
  blk : Blk w1 w.heap.size 29 cs
  ne : w.heap.size ∉ g :: v.ownBlock.toList
  own : ∀ x, v.ownBlock = some x → w0.heap.size ≤ x
theorem PutSt.mk' {w0 w : World} {base g : Nat} {v : Value} {l : List UInt8} (cs : Array Value) (hw : w0.heap.size ≤ base) (hg : base ≤ g) (hb0 : Below w0.heap.size w0 w) (hv : Wr w base g v l) (hbase : base ≤ w.heap.size) : PutSt w0 w (w.alloc (.cells cs 29)) base g v l cs where
  base0 := hw
  bg := hg
  b0 := hb0
  b1 := (Below.refl _ _).alloc (Nat.le_refl _) _
  bw := hbase
  z1 := by simp
  wr := hv.later ((Below.refl _ _).alloc (Nat.le_refl _) _)
  blk := Blk.new _ _ _
  ne := fun hx => by
    rcases List.mem_cons.1 hx with hx | hx
    · have := hv.lt
      omega
    · have := (hv.2.lt w.heap.size (by simpa using hx)).2
      omega
  own := fun x hx => Nat.le_trans hw (hv.2.lt x hx).1
section
variable {w0 w w1 W : World} {base g : Nat} {v v' : Value} {l k : List UInt8} {cs : Array Value}
theorem PutSt.cell (h : PutSt w0 w w1 base g v l cs) (hp : Wrote base g v v' l k w1 W) (j : Nat) {u : Value} (hu : cs[j]? = some u) : W.cell? ⟨w.heap.size, j, none⟩ = some u := blk_cell (h.blk.kp hp.2.1 h.ne) j hu
theorem PutSt.below (h : PutSt w0 w w1 base g v l cs) (hp : Wrote base g v v' l k w1 W) : Below w0.heap.size w0 W :=
  (h.b0.trans (h.b1.mono h.b0.size)).trans (hp.below (B := w0.heap.size) (Nat.le_trans h.base0 h.bg) h.own (Nat.le_trans h.b0.size h.b1.size))
theorem PutSt.le (h : PutSt w0 w w1 base g v l cs) (hp : Wrote base g v v' l k w1 W) : base ≤ W.heap.size := Nat.le_trans h.bw (Nat.le_trans h.b1.size hp.size)
theorem PutSt.sep (h : PutSt w0 w w1 base g v l cs) (hp : Wrote base g v v' l k w1 W) {W' : World} {size n : Nat} {A : Option Addr} {xs : List Value} (hr : Reads W' w0.heap.size size A n xs) : 0 < n → ∀ ad, A = some ad → ad.block ≠ g ∧ v'.ownBlock ≠ some ad.block := fun hn ad e => by
  obtain ⟨ad', e', hb, _⟩ := hr.2 hn
  rw [e] at e'
  injection e' with e'
  subst e'
  have h1 := h.base0
  have h2 := h.bg
  refine ⟨by omega, fun e2 => ?_⟩
  have := (hp.1.2.lt _ e2).1
  omega
end

set_option maxRecDepth 100000 in
set_option maxHeartbeats 20000000 in
theorem put_g0 {w0 w : World} {lo : Option Nat} (t : Int) (htt : t ∈ ([1, 15, 19] : List Int)) (f : OpF) (d a k0 k1 k2 k3 k4 i s : Sl) (base g : Nat) (v : Value) (l : List UInt8) (ht : f.t = t) (h : FAt w0 lo f d a k0 k1 k2 k3 k4 i) (hw : w0.heap.size ≤ base) (hg : base ≤ g) (hb0 : Below w0.heap.size w0 w) (hv : Wr w base g v l) (hbase : base ≤ w.heap.size) (hsz : l.length + (fldB f).length + 64 ≤ 140737488355328) :
    Calls Tryz.prog 23 #[.pointer (some ⟨g, 0, none⟩), .agg (f.row d a k0 k1 k2 k3 k4 i s).toArray] w fun e w' => e = .returned (.tuple #[]) ∧ ∃ v', Wrote base g v v' l (fldB f) w w' := by
  have hfb : fldB f = bBuf f.p.data.toList ++ bBuf f.l ++ (bInt f.L.length ++ pAclsB f.L) ++ bInt f.fl := by
    unfold fldB
    rw [ht]
    clear ht
    simp only [List.mem_cons, List.not_mem_nil, or_false] at htt
    rcases htt with rfl | rfl | rfl <;> rfl
  rw [hfb] at hsz ⊢
  clear hfb
  have HS0 := PutSt.mk' (f.row d a k0 k1 k2 k3 k4 i s).toArray hw hg hb0 hv hbase
  obtain ⟨w1, hw1⟩ : ∃ w1, w.alloc (.cells (f.row d a k0 k1 k2 k3 k4 i s).toArray 29) = w1 := ⟨_, rfl⟩
  rw [hw1] at HS0
  have HS := Lib.hid HS0
  have HF := Lib.hid h
  have HP0 : Hid (Wrote base g v v l [] w1 w1) := Wrote.start HS0.wr
  have d0 := HS0.cell HP0.out 0 (u := .int .i32 t) (by rw [← ht]; rfl)
  have d1 := HS0.cell HP0.out 1 (u := .string f.p) rfl
  have hla := h.a.len
  have hli := h.i.len
  simp only [List.length_append, bBuf_len, bInt_len, bLong_len, bBool, List.length_singleton, List.length_nil, ← bsize_eq] at hsz
  obtain ⟨cs, hcs⟩ : ∃ cs : Array Value, cs = (f.row d a k0 k1 k2 k3 k4 i s).toArray := ⟨_, rfl⟩
  rw [← hcs] at hw1 ⊢
  clear HS0 h hw hg hb0 hv hbase ht hcs
  obtain ⟨n0, n1, n2, n3, n4, n5, n6, n7, n8, n9, n10, n11, n12, n13, n14, n15, n16, n17, n18, n19, n20, _⟩ := sw_all (cs := [21, 2, 13, 5, 7, 120, 121, 6, 9, 103, 104, 3, 4, 8, 12, 101, 106, 18, (-10), 14, 22]) htt rfl
  have S : ((t == 1) = true) ∨ ((t == 1) = false ∧ (t == 15) = true) ∨ ((t == 1) = false ∧ (t == 15) = false ∧ (t == 19) = true) := by
    simp only [List.mem_cons, List.not_mem_nil, or_false] at htt
    rcases htt with rfl | rfl | rfl <;> decide
  clear htt
  rcases S with s0 | ⟨s0, s1⟩ | ⟨s0, s1, s2⟩
  all_goals
    go_enter Tryz.func23, Tryz.ntmps23
    go_wp2_with (first
      | (go_at_call 42
         refine (wText_any base g v _ f.p _ HP0.out.1 (HS.out.le HP0.out) (by simp only [List.length_append, bBuf_len, bInt_len, bLong_len, bBool, List.length_singleton, List.length_nil, ← bsize_eq]; omega)).mono ?_
         rintro e w2 ⟨rfl, v1, hp⟩
         have HP1 := Lib.hid (HP0.out.cat (Below.refl _ _) hp)
         clear hp
         have d2 := HS.out.cell HP1.out 2 (u := .slice d.A d.n d.c) rfl
         clear HP0 d1)
      | (go_at_call 43
         refine (wBuffer_any base g v1 _ f.l d.A d.n d.c w0.heap.size _ HP1.out.1 (HF.out.d.reads.below (HS.out.below HP1.out)) (Nat.le_trans HS.out.base0 (HS.out.le HP1.out)) (HS.out.sep HP1.out HF.out.d.reads) (HS.out.le HP1.out) (by simp only [List.length_append, bBuf_len, bInt_len, bLong_len, bBool, List.length_singleton, List.length_nil, ← bsize_eq]; omega)).mono ?_
         rintro e w3 ⟨rfl, v2, hp⟩
         have HP2 := Lib.hid (HP1.out.cat (Below.refl _ _) hp)
         clear hp
         have d3 := HS.out.cell HP2.out 3 (u := .slice a.A a.n a.c) rfl
         clear HP1 d2)
      | (go_at_call 44
         refine (aclPut_any base g v2 _ a.A a.n a.c w0.heap.size f.L _ HP2.out.1 (HF.out.a.reads.below (HS.out.below HP2.out)) HS.out.base0 HS.out.bg (HS.out.le HP2.out) (Nat.le_trans (HF.out.a.bd (by decide)) (by decide)) (by simp only [List.length_append, bBuf_len, bInt_len, bLong_len, bBool, List.length_singleton, List.length_nil, ← bsize_eq]; omega)).mono ?_
         rintro e w4 ⟨rfl, v3, hp⟩
         have HP3 := Lib.hid (HP2.out.cat (Below.refl _ _) hp)
         clear hp
         have d4 := HS.out.cell HP3.out 4 (u := .int .i32 f.fl) rfl
         clear HP2 d3)
      | (go_at_call 40
         refine (wInt_any base g v3 _ _ _ HP3.out.1 (HS.out.le HP3.out) (by simp only [List.length_append, bBuf_len, bInt_len, bLong_len, bBool, List.length_singleton, List.length_nil, ← bsize_eq]; omega)).mono ?_
         rintro e w5 ⟨rfl, v4, hp⟩
         have HP4 := Lib.hid (HP3.out.cat (Below.refl _ _) hp)
         clear hp
         clear HP3 d4))
    go_end0
    have HPE := HP4.out
    rw [← hla] at HPE
    exact ⟨rfl, v4, HPE.from HS.out.b1⟩
set_option maxRecDepth 100000 in
set_option maxHeartbeats 20000000 in
theorem put_g1 {w0 w : World} {lo : Option Nat} (t : Int) (htt : t ∈ ([21] : List Int)) (f : OpF) (d a k0 k1 k2 k3 k4 i s : Sl) (base g : Nat) (v : Value) (l : List UInt8) (ht : f.t = t) (h : FAt w0 lo f d a k0 k1 k2 k3 k4 i) (hw : w0.heap.size ≤ base) (hg : base ≤ g) (hb0 : Below w0.heap.size w0 w) (hv : Wr w base g v l) (hbase : base ≤ w.heap.size) (hsz : l.length + (fldB f).length + 64 ≤ 140737488355328) :
    Calls Tryz.prog 23 #[.pointer (some ⟨g, 0, none⟩), .agg (f.row d a k0 k1 k2 k3 k4 i s).toArray] w fun e w' => e = .returned (.tuple #[]) ∧ ∃ v', Wrote base g v v' l (fldB f) w w' := by
  have hfb : fldB f = bBuf f.p.data.toList ++ bBuf f.l ++ (bInt f.L.length ++ pAclsB f.L) ++ bInt f.fl ++ bLong f.tl := by
    unfold fldB
    rw [ht]
    clear ht
    simp only [List.mem_cons, List.not_mem_nil, or_false] at htt
    rcases htt with rfl <;> rfl
  rw [hfb] at hsz ⊢
  clear hfb
  have HS0 := PutSt.mk' (f.row d a k0 k1 k2 k3 k4 i s).toArray hw hg hb0 hv hbase
  obtain ⟨w1, hw1⟩ : ∃ w1, w.alloc (.cells (f.row d a k0 k1 k2 k3 k4 i s).toArray 29) = w1 := ⟨_, rfl⟩
  rw [hw1] at HS0
  have HS := Lib.hid HS0
  have HF := Lib.hid h
  have HP0 : Hid (Wrote base g v v l [] w1 w1) := Wrote.start HS0.wr
  have d0 := HS0.cell HP0.out 0 (u := .int .i32 t) (by rw [← ht]; rfl)
  have d1 := HS0.cell HP0.out 1 (u := .string f.p) rfl
  have hla := h.a.len
  have hli := h.i.len
  simp only [List.length_append, bBuf_len, bInt_len, bLong_len, bBool, List.length_singleton, List.length_nil, ← bsize_eq] at hsz
  obtain ⟨cs, hcs⟩ : ∃ cs : Array Value, cs = (f.row d a k0 k1 k2 k3 k4 i s).toArray := ⟨_, rfl⟩
  rw [← hcs] at hw1 ⊢
  clear HS0 h hw hg hb0 hv hbase ht hcs
  obtain ⟨n0, n1, n2, n3, n4, n5, n6, n7, n8, n9, n10, n11, n12, n13, n14, n15, n16, n17, n18, n19, n20, n21, n22, _⟩ := sw_all (cs := [1, 15, 19, 2, 13, 5, 7, 120, 121, 6, 9, 103, 104, 3, 4, 8, 12, 101, 106, 18, (-10), 14, 22]) htt rfl
  have S : ((t == 21) = true) := by
    simp only [List.mem_cons, List.not_mem_nil, or_false] at htt
    rcases htt with rfl <;> decide
  clear htt
  go_enter Tryz.func23, Tryz.ntmps23
  go_wp2_with (first
    | (go_at_call 42
       refine (wText_any base g v _ f.p _ HP0.out.1 (HS.out.le HP0.out) (by simp only [List.length_append, bBuf_len, bInt_len, bLong_len, bBool, List.length_singleton, List.length_nil, ← bsize_eq]; omega)).mono ?_
       rintro e w2 ⟨rfl, v1, hp⟩
       have HP1 := Lib.hid (HP0.out.cat (Below.refl _ _) hp)
       clear hp
       have d2 := HS.out.cell HP1.out 2 (u := .slice d.A d.n d.c) rfl
       clear HP0 d1)
    | (go_at_call 43
       refine (wBuffer_any base g v1 _ f.l d.A d.n d.c w0.heap.size _ HP1.out.1 (HF.out.d.reads.below (HS.out.below HP1.out)) (Nat.le_trans HS.out.base0 (HS.out.le HP1.out)) (HS.out.sep HP1.out HF.out.d.reads) (HS.out.le HP1.out) (by simp only [List.length_append, bBuf_len, bInt_len, bLong_len, bBool, List.length_singleton, List.length_nil, ← bsize_eq]; omega)).mono ?_
       rintro e w3 ⟨rfl, v2, hp⟩
       have HP2 := Lib.hid (HP1.out.cat (Below.refl _ _) hp)
       clear hp
       have d3 := HS.out.cell HP2.out 3 (u := .slice a.A a.n a.c) rfl
       clear HP1 d2)
    | (go_at_call 44
       refine (aclPut_any base g v2 _ a.A a.n a.c w0.heap.size f.L _ HP2.out.1 (HF.out.a.reads.below (HS.out.below HP2.out)) HS.out.base0 HS.out.bg (HS.out.le HP2.out) (Nat.le_trans (HF.out.a.bd (by decide)) (by decide)) (by simp only [List.length_append, bBuf_len, bInt_len, bLong_len, bBool, List.length_singleton, List.length_nil, ← bsize_eq]; omega)).mono ?_
       rintro e w4 ⟨rfl, v3, hp⟩
       have HP3 := Lib.hid (HP2.out.cat (Below.refl _ _) hp)
       clear hp
       have d4 := HS.out.cell HP3.out 4 (u := .int .i32 f.fl) rfl
       clear HP2 d3)
    | (go_at_call 40
       refine (wInt_any base g v3 _ _ _ HP3.out.1 (HS.out.le HP3.out) (by simp only [List.length_append, bBuf_len, bInt_len, bLong_len, bBool, List.length_singleton, List.length_nil, ← bsize_eq]; omega)).mono ?_
       rintro e w5 ⟨rfl, v4, hp⟩
       have HP4 := Lib.hid (HP3.out.cat (Below.refl _ _) hp)
       clear hp
       have d9 := HS.out.cell HP4.out 9 (u := .int .i64 f.tl) rfl
       clear HP3 d4)
    | (go_at_call 45
       refine (wLong_any base g v4 _ _ _ HP4.out.1 (HS.out.le HP4.out) (by simp only [List.length_append, bBuf_len, bInt_len, bLong_len, bBool, List.length_singleton, List.length_nil, ← bsize_eq]; omega)).mono ?_
       rintro e w6 ⟨rfl, v5, hp⟩
       have HP5 := Lib.hid (HP4.out.cat (Below.refl _ _) hp)
       clear hp
       clear HP4 d9))
  go_end0
  have HPE := HP5.out
  rw [← hla] at HPE
  exact ⟨rfl, v5, HPE.from HS.out.b1⟩
set_option maxRecDepth 100000 in
set_option maxHeartbeats 20000000 in
theorem put_g2 {w0 w : World} {lo : Option Nat} (t : Int) (htt : t ∈ ([2, 13] : List Int)) (f : OpF) (d a k0 k1 k2 k3 k4 i s : Sl) (base g : Nat) (v : Value) (l : List UInt8) (ht : f.t = t) (h : FAt w0 lo f d a k0 k1 k2 k3 k4 i) (hw : w0.heap.size ≤ base) (hg : base ≤ g) (hb0 : Below w0.heap.size w0 w) (hv : Wr w base g v l) (hbase : base ≤ w.heap.size) (hsz : l.length + (fldB f).length + 64 ≤ 140737488355328) :
    Calls Tryz.prog 23 #[.pointer (some ⟨g, 0, none⟩), .agg (f.row d a k0 k1 k2 k3 k4 i s).toArray] w fun e w' => e = .returned (.tuple #[]) ∧ ∃ v', Wrote base g v v' l (fldB f) w w' := by
  have hfb : fldB f = bBuf f.p.data.toList ++ bInt f.ve := by
    unfold fldB
    rw [ht]
    clear ht
    simp only [List.mem_cons, List.not_mem_nil, or_false] at htt
    rcases htt with rfl | rfl <;> rfl
  rw [hfb] at hsz ⊢
  clear hfb
  have HS0 := PutSt.mk' (f.row d a k0 k1 k2 k3 k4 i s).toArray hw hg hb0 hv hbase
  obtain ⟨w1, hw1⟩ : ∃ w1, w.alloc (.cells (f.row d a k0 k1 k2 k3 k4 i s).toArray 29) = w1 := ⟨_, rfl⟩
  rw [hw1] at HS0
  have HS := Lib.hid HS0
  have HF := Lib.hid h
  have HP0 : Hid (Wrote base g v v l [] w1 w1) := Wrote.start HS0.wr
  have d0 := HS0.cell HP0.out 0 (u := .int .i32 t) (by rw [← ht]; rfl)
  have d1 := HS0.cell HP0.out 1 (u := .string f.p) rfl
  have hla := h.a.len
  have hli := h.i.len
  simp only [List.length_append, bBuf_len, bInt_len, bLong_len, bBool, List.length_singleton, List.length_nil, ← bsize_eq] at hsz
  obtain ⟨cs, hcs⟩ : ∃ cs : Array Value, cs = (f.row d a k0 k1 k2 k3 k4 i s).toArray := ⟨_, rfl⟩
  rw [← hcs] at hw1 ⊢
  clear HS0 h hw hg hb0 hv hbase ht hcs
  obtain ⟨n0, n1, n2, n3, n4, n5, n6, n7, n8, n9, n10, n11, n12, n13, n14, n15, n16, n17, n18, n19, n20, n21, _⟩ := sw_all (cs := [1, 15, 19, 21, 5, 7, 120, 121, 6, 9, 103, 104, 3, 4, 8, 12, 101, 106, 18, (-10), 14, 22]) htt rfl
  have S : ((t == 2) = true) ∨ ((t == 2) = false ∧ (t == 13) = true) := by
    simp only [List.mem_cons, List.not_mem_nil, or_false] at htt
    rcases htt with rfl | rfl <;> decide
  clear htt
  rcases S with s0 | ⟨s0, s1⟩
  all_goals
    go_enter Tryz.func23, Tryz.ntmps23
    go_wp2_with (first
      | (go_at_call 42
         refine (wText_any base g v _ f.p _ HP0.out.1 (HS.out.le HP0.out) (by simp only [List.length_append, bBuf_len, bInt_len, bLong_len, bBool, List.length_singleton, List.length_nil, ← bsize_eq]; omega)).mono ?_
         rintro e w2 ⟨rfl, v1, hp⟩
         have HP1 := Lib.hid (HP0.out.cat (Below.refl _ _) hp)
         clear hp
         have d5 := HS.out.cell HP1.out 5 (u := .int .i32 f.ve) rfl
         clear HP0 d1)
      | (go_at_call 40
         refine (wInt_any base g v1 _ _ _ HP1.out.1 (HS.out.le HP1.out) (by simp only [List.length_append, bBuf_len, bInt_len, bLong_len, bBool, List.length_singleton, List.length_nil, ← bsize_eq]; omega)).mono ?_
         rintro e w3 ⟨rfl, v2, hp⟩
         have HP2 := Lib.hid (HP1.out.cat (Below.refl _ _) hp)
         clear hp
         clear HP1 d5))
    go_end0
    have HPE := HP2.out
    exact ⟨rfl, v2, HPE.from HS.out.b1⟩
set_option maxRecDepth 100000 in
set_option maxHeartbeats 20000000 in
theorem put_g3 {w0 w : World} {lo : Option Nat} (t : Int) (htt : t ∈ ([5] : List Int)) (f : OpF) (d a k0 k1 k2 k3 k4 i s : Sl) (base g : Nat) (v : Value) (l : List UInt8) (ht : f.t = t) (h : FAt w0 lo f d a k0 k1 k2 k3 k4 i) (hw : w0.heap.size ≤ base) (hg : base ≤ g) (hb0 : Below w0.heap.size w0 w) (hv : Wr w base g v l) (hbase : base ≤ w.heap.size) (hsz : l.length + (fldB f).length + 64 ≤ 140737488355328) :
    Calls Tryz.prog 23 #[.pointer (some ⟨g, 0, none⟩), .agg (f.row d a k0 k1 k2 k3 k4 i s).toArray] w fun e w' => e = .returned (.tuple #[]) ∧ ∃ v', Wrote base g v v' l (fldB f) w w' := by
  have hfb : fldB f = bBuf f.p.data.toList ++ bBuf f.l ++ bInt f.ve := by
    unfold fldB
    rw [ht]
    clear ht
    simp only [List.mem_cons, List.not_mem_nil, or_false] at htt
    rcases htt with rfl <;> rfl
  rw [hfb] at hsz ⊢
  clear hfb
  have HS0 := PutSt.mk' (f.row d a k0 k1 k2 k3 k4 i s).toArray hw hg hb0 hv hbase
  obtain ⟨w1, hw1⟩ : ∃ w1, w.alloc (.cells (f.row d a k0 k1 k2 k3 k4 i s).toArray 29) = w1 := ⟨_, rfl⟩
  rw [hw1] at HS0
  have HS := Lib.hid HS0
  have HF := Lib.hid h
  have HP0 : Hid (Wrote base g v v l [] w1 w1) := Wrote.start HS0.wr
  have d0 := HS0.cell HP0.out 0 (u := .int .i32 t) (by rw [← ht]; rfl)
  have d1 := HS0.cell HP0.out 1 (u := .string f.p) rfl
  have hla := h.a.len
  have hli := h.i.len
  simp only [List.length_append, bBuf_len, bInt_len, bLong_len, bBool, List.length_singleton, List.length_nil, ← bsize_eq] at hsz
  obtain ⟨cs, hcs⟩ : ∃ cs : Array Value, cs = (f.row d a k0 k1 k2 k3 k4 i s).toArray := ⟨_, rfl⟩
  rw [← hcs] at hw1 ⊢
  clear HS0 h hw hg hb0 hv hbase ht hcs
  obtain ⟨n0, n1, n2, n3, n4, n5, n6, n7, n8, n9, n10, n11, n12, n13, n14, n15, n16, n17, n18, n19, n20, n21, n22, _⟩ := sw_all (cs := [1, 15, 19, 21, 2, 13, 7, 120, 121, 6, 9, 103, 104, 3, 4, 8, 12, 101, 106, 18, (-10), 14, 22]) htt rfl
  have S : ((t == 5) = true) := by
    simp only [List.mem_cons, List.not_mem_nil, or_false] at htt
    rcases htt with rfl <;> decide
  clear htt
  go_enter Tryz.func23, Tryz.ntmps23
  go_wp2_with (first
    | (go_at_call 42
       refine (wText_any base g v _ f.p _ HP0.out.1 (HS.out.le HP0.out) (by simp only [List.length_append, bBuf_len, bInt_len, bLong_len, bBool, List.length_singleton, List.length_nil, ← bsize_eq]; omega)).mono ?_
       rintro e w2 ⟨rfl, v1, hp⟩
       have HP1 := Lib.hid (HP0.out.cat (Below.refl _ _) hp)
       clear hp
       have d2 := HS.out.cell HP1.out 2 (u := .slice d.A d.n d.c) rfl
       clear HP0 d1)
    | (go_at_call 43
       refine (wBuffer_any base g v1 _ f.l d.A d.n d.c w0.heap.size _ HP1.out.1 (HF.out.d.reads.below (HS.out.below HP1.out)) (Nat.le_trans HS.out.base0 (HS.out.le HP1.out)) (HS.out.sep HP1.out HF.out.d.reads) (HS.out.le HP1.out) (by simp only [List.length_append, bBuf_len, bInt_len, bLong_len, bBool, List.length_singleton, List.length_nil, ← bsize_eq]; omega)).mono ?_
       rintro e w3 ⟨rfl, v2, hp⟩
       have HP2 := Lib.hid (HP1.out.cat (Below.refl _ _) hp)
       clear hp
       have d5 := HS.out.cell HP2.out 5 (u := .int .i32 f.ve) rfl
       clear HP1 d2)
    | (go_at_call 40
       refine (wInt_any base g v2 _ _ _ HP2.out.1 (HS.out.le HP2.out) (by simp only [List.length_append, bBuf_len, bInt_len, bLong_len, bBool, List.length_singleton, List.length_nil, ← bsize_eq]; omega)).mono ?_
       rintro e w4 ⟨rfl, v3, hp⟩
       have HP3 := Lib.hid (HP2.out.cat (Below.refl _ _) hp)
       clear hp
       clear HP2 d5))
  go_end0
  have HPE := HP3.out
  exact ⟨rfl, v3, HPE.from HS.out.b1⟩
set_option maxRecDepth 100000 in
set_option maxHeartbeats 20000000 in
theorem put_g4 {w0 w : World} {lo : Option Nat} (t : Int) (htt : t ∈ ([7] : List Int)) (f : OpF) (d a k0 k1 k2 k3 k4 i s : Sl) (base g : Nat) (v : Value) (l : List UInt8) (ht : f.t = t) (h : FAt w0 lo f d a k0 k1 k2 k3 k4 i) (hw : w0.heap.size ≤ base) (hg : base ≤ g) (hb0 : Below w0.heap.size w0 w) (hv : Wr w base g v l) (hbase : base ≤ w.heap.size) (hsz : l.length + (fldB f).length + 64 ≤ 140737488355328) :
    Calls Tryz.prog 23 #[.pointer (some ⟨g, 0, none⟩), .agg (f.row d a k0 k1 k2 k3 k4 i s).toArray] w fun e w' => e = .returned (.tuple #[]) ∧ ∃ v', Wrote base g v v' l (fldB f) w w' := by
  have hfb : fldB f = bBuf f.p.data.toList ++ (bInt f.L.length ++ pAclsB f.L) ++ bInt f.ve := by
    unfold fldB
    rw [ht]
    clear ht
    simp only [List.mem_cons, List.not_mem_nil, or_false] at htt
    rcases htt with rfl <;> rfl
  rw [hfb] at hsz ⊢
  clear hfb
  have HS0 := PutSt.mk' (f.row d a k0 k1 k2 k3 k4 i s).toArray hw hg hb0 hv hbase
  obtain ⟨w1, hw1⟩ : ∃ w1, w.alloc (.cells (f.row d a k0 k1 k2 k3 k4 i s).toArray 29) = w1 := ⟨_, rfl⟩
  rw [hw1] at HS0
  have HS := Lib.hid HS0
  have HF := Lib.hid h
  have HP0 : Hid (Wrote base g v v l [] w1 w1) := Wrote.start HS0.wr
  have d0 := HS0.cell HP0.out 0 (u := .int .i32 t) (by rw [← ht]; rfl)
  have d1 := HS0.cell HP0.out 1 (u := .string f.p) rfl
  have hla := h.a.len
  have hli := h.i.len
  simp only [List.length_append, bBuf_len, bInt_len, bLong_len, bBool, List.length_singleton, List.length_nil, ← bsize_eq] at hsz
  obtain ⟨cs, hcs⟩ : ∃ cs : Array Value, cs = (f.row d a k0 k1 k2 k3 k4 i s).toArray := ⟨_, rfl⟩
  rw [← hcs] at hw1 ⊢
  clear HS0 h hw hg hb0 hv hbase ht hcs
  obtain ⟨n0, n1, n2, n3, n4, n5, n6, n7, n8, n9, n10, n11, n12, n13, n14, n15, n16, n17, n18, n19, n20, n21, n22, _⟩ := sw_all (cs := [1, 15, 19, 21, 2, 13, 5, 120, 121, 6, 9, 103, 104, 3, 4, 8, 12, 101, 106, 18, (-10), 14, 22]) htt rfl
  have S : ((t == 7) = true) := by
    simp only [List.mem_cons, List.not_mem_nil, or_false] at htt
    rcases htt with rfl <;> decide
  clear htt
  go_enter Tryz.func23, Tryz.ntmps23
  go_wp2_with (first
    | (go_at_call 42
       refine (wText_any base g v _ f.p _ HP0.out.1 (HS.out.le HP0.out) (by simp only [List.length_append, bBuf_len, bInt_len, bLong_len, bBool, List.length_singleton, List.length_nil, ← bsize_eq]; omega)).mono ?_
       rintro e w2 ⟨rfl, v1, hp⟩
       have HP1 := Lib.hid (HP0.out.cat (Below.refl _ _) hp)
       clear hp
       have d3 := HS.out.cell HP1.out 3 (u := .slice a.A a.n a.c) rfl
       clear HP0 d1)
    | (go_at_call 44
       refine (aclPut_any base g v1 _ a.A a.n a.c w0.heap.size f.L _ HP1.out.1 (HF.out.a.reads.below (HS.out.below HP1.out)) HS.out.base0 HS.out.bg (HS.out.le HP1.out) (Nat.le_trans (HF.out.a.bd (by decide)) (by decide)) (by simp only [List.length_append, bBuf_len, bInt_len, bLong_len, bBool, List.length_singleton, List.length_nil, ← bsize_eq]; omega)).mono ?_
       rintro e w3 ⟨rfl, v2, hp⟩
       have HP2 := Lib.hid (HP1.out.cat (Below.refl _ _) hp)
       clear hp
       have d5 := HS.out.cell HP2.out 5 (u := .int .i32 f.ve) rfl
       clear HP1 d3)
    | (go_at_call 40
       refine (wInt_any base g v2 _ _ _ HP2.out.1 (HS.out.le HP2.out) (by simp only [List.length_append, bBuf_len, bInt_len, bLong_len, bBool, List.length_singleton, List.length_nil, ← bsize_eq]; omega)).mono ?_
       rintro e w4 ⟨rfl, v3, hp⟩
       have HP3 := Lib.hid (HP2.out.cat (Below.refl _ _) hp)
       clear hp
       clear HP2 d5))
  go_end0
  have HPE := HP3.out
  rw [← hla] at HPE
  exact ⟨rfl, v3, HPE.from HS.out.b1⟩
set_option maxRecDepth 100000 in
set_option maxHeartbeats 20000000 in
theorem put_g5 {w0 w : World} {lo : Option Nat} (t : Int) (htt : t ∈ ([120] : List Int)) (f : OpF) (d a k0 k1 k2 k3 k4 i s : Sl) (base g : Nat) (v : Value) (l : List UInt8) (ht : f.t = t) (h : FAt w0 lo f d a k0 k1 k2 k3 k4 i) (hw : w0.heap.size ≤ base) (hg : base ≤ g) (hb0 : Below w0.heap.size w0 w) (hv : Wr w base g v l) (hbase : base ≤ w.heap.size) (hsz : l.length + (fldB f).length + 64 ≤ 140737488355328) :
    Calls Tryz.prog 23 #[.pointer (some ⟨g, 0, none⟩), .agg (f.row d a k0 k1 k2 k3 k4 i s).toArray] w fun e w' => e = .returned (.tuple #[]) ∧ ∃ v', Wrote base g v v' l (fldB f) w w' := by
  have hfb : fldB f = bBuf f.p.data.toList ++ bLong f.ct ++ bLong f.by_ := by
    unfold fldB
    rw [ht]
    clear ht
    simp only [List.mem_cons, List.not_mem_nil, or_false] at htt
    rcases htt with rfl <;> rfl
  rw [hfb] at hsz ⊢
  clear hfb
  have HS0 := PutSt.mk' (f.row d a k0 k1 k2 k3 k4 i s).toArray hw hg hb0 hv hbase
  obtain ⟨w1, hw1⟩ : ∃ w1, w.alloc (.cells (f.row d a k0 k1 k2 k3 k4 i s).toArray 29) = w1 := ⟨_, rfl⟩
  rw [hw1] at HS0
  have HS := Lib.hid HS0
  have HF := Lib.hid h
  have HP0 : Hid (Wrote base g v v l [] w1 w1) := Wrote.start HS0.wr
  have d0 := HS0.cell HP0.out 0 (u := .int .i32 t) (by rw [← ht]; rfl)
  have d1 := HS0.cell HP0.out 1 (u := .string f.p) rfl
  have hla := h.a.len
  have hli := h.i.len
  simp only [List.length_append, bBuf_len, bInt_len, bLong_len, bBool, List.length_singleton, List.length_nil, ← bsize_eq] at hsz
  obtain ⟨cs, hcs⟩ : ∃ cs : Array Value, cs = (f.row d a k0 k1 k2 k3 k4 i s).toArray := ⟨_, rfl⟩
  rw [← hcs] at hw1 ⊢
  clear HS0 h hw hg hb0 hv hbase ht hcs
  obtain ⟨n0, n1, n2, n3, n4, n5, n6, n7, n8, n9, n10, n11, n12, n13, n14, n15, n16, n17, n18, n19, n20, n21, n22, _⟩ := sw_all (cs := [1, 15, 19, 21, 2, 13, 5, 7, 121, 6, 9, 103, 104, 3, 4, 8, 12, 101, 106, 18, (-10), 14, 22]) htt rfl
  have S : ((t == 120) = true) := by
    simp only [List.mem_cons, List.not_mem_nil, or_false] at htt
    rcases htt with rfl <;> decide
  clear htt
  go_enter Tryz.func23, Tryz.ntmps23
  go_wp2_with (first
    | (go_at_call 42
       refine (wText_any base g v _ f.p _ HP0.out.1 (HS.out.le HP0.out) (by simp only [List.length_append, bBuf_len, bInt_len, bLong_len, bBool, List.length_singleton, List.length_nil, ← bsize_eq]; omega)).mono ?_
       rintro e w2 ⟨rfl, v1, hp⟩
       have HP1 := Lib.hid (HP0.out.cat (Below.refl _ _) hp)
       clear hp
       have d7 := HS.out.cell HP1.out 7 (u := .int .i64 f.ct) rfl
       clear HP0 d1)
    | (go_at_call 45
       refine (wLong_any base g v1 _ _ _ HP1.out.1 (HS.out.le HP1.out) (by simp only [List.length_append, bBuf_len, bInt_len, bLong_len, bBool, List.length_singleton, List.length_nil, ← bsize_eq]; omega)).mono ?_
       rintro e w3 ⟨rfl, v2, hp⟩
       have HP2 := Lib.hid (HP1.out.cat (Below.refl _ _) hp)
       clear hp
       have d8 := HS.out.cell HP2.out 8 (u := .int .i64 f.by_) rfl
       clear HP1 d7)
    | (go_at_call 45
       refine (wLong_any base g v2 _ _ _ HP2.out.1 (HS.out.le HP2.out) (by simp only [List.length_append, bBuf_len, bInt_len, bLong_len, bBool, List.length_singleton, List.length_nil, ← bsize_eq]; omega)).mono ?_
       rintro e w4 ⟨rfl, v3, hp⟩
       have HP3 := Lib.hid (HP2.out.cat (Below.refl _ _) hp)
       clear hp
       clear HP2 d8))
  go_end0
  have HPE := HP3.out
  exact ⟨rfl, v3, HPE.from HS.out.b1⟩
set_option maxRecDepth 100000 in
set_option maxHeartbeats 20000000 in
theorem put_g6 {w0 w : World} {lo : Option Nat} (t : Int) (htt : t ∈ ([121, 6, 9, 103, 104] : List Int)) (f : OpF) (d a k0 k1 k2 k3 k4 i s : Sl) (base g : Nat) (v : Value) (l : List UInt8) (ht : f.t = t) (h : FAt w0 lo f d a k0 k1 k2 k3 k4 i) (hw : w0.heap.size ≤ base) (hg : base ≤ g) (hb0 : Below w0.heap.size w0 w) (hv : Wr w base g v l) (hbase : base ≤ w.heap.size) (hsz : l.length + (fldB f).length + 64 ≤ 140737488355328) :
    Calls Tryz.prog 23 #[.pointer (some ⟨g, 0, none⟩), .agg (f.row d a k0 k1 k2 k3 k4 i s).toArray] w fun e w' => e = .returned (.tuple #[]) ∧ ∃ v', Wrote base g v v' l (fldB f) w w' := by
  have hfb : fldB f = bBuf f.p.data.toList := by
    unfold fldB
    rw [ht]
    clear ht
    simp only [List.mem_cons, List.not_mem_nil, or_false] at htt
    rcases htt with rfl | rfl | rfl | rfl | rfl <;> rfl
  rw [hfb] at hsz ⊢
  clear hfb
  have HS0 := PutSt.mk' (f.row d a k0 k1 k2 k3 k4 i s).toArray hw hg hb0 hv hbase
  obtain ⟨w1, hw1⟩ : ∃ w1, w.alloc (.cells (f.row d a k0 k1 k2 k3 k4 i s).toArray 29) = w1 := ⟨_, rfl⟩
  rw [hw1] at HS0
  have HS := Lib.hid HS0
  have HF := Lib.hid h
  have HP0 : Hid (Wrote base g v v l [] w1 w1) := Wrote.start HS0.wr
  have d0 := HS0.cell HP0.out 0 (u := .int .i32 t) (by rw [← ht]; rfl)
  have d1 := HS0.cell HP0.out 1 (u := .string f.p) rfl
  have hla := h.a.len
  have hli := h.i.len
  simp only [List.length_append, bBuf_len, bInt_len, bLong_len, bBool, List.length_singleton, List.length_nil, ← bsize_eq] at hsz
  obtain ⟨cs, hcs⟩ : ∃ cs : Array Value, cs = (f.row d a k0 k1 k2 k3 k4 i s).toArray := ⟨_, rfl⟩
  rw [← hcs] at hw1 ⊢
  clear HS0 h hw hg hb0 hv hbase ht hcs
  obtain ⟨n0, n1, n2, n3, n4, n5, n6, n7, n8, n9, n10, n11, n12, n13, n14, n15, n16, n17, n18, _⟩ := sw_all (cs := [1, 15, 19, 21, 2, 13, 5, 7, 120, 3, 4, 8, 12, 101, 106, 18, (-10), 14, 22]) htt rfl
  have S : ((t == 121) = true) ∨ ((t == 121) = false ∧ (t == 6) = true) ∨ ((t == 121) = false ∧ (t == 6) = false ∧ (t == 9) = true) ∨ ((t == 121) = false ∧ (t == 6) = false ∧ (t == 9) = false ∧ (t == 103) = true) ∨ ((t == 121) = false ∧ (t == 6) = false ∧ (t == 9) = false ∧ (t == 103) = false ∧ (t == 104) = true) := by
    simp only [List.mem_cons, List.not_mem_nil, or_false] at htt
    rcases htt with rfl | rfl | rfl | rfl | rfl <;> decide
  clear htt
  rcases S with s0 | ⟨s0, s1⟩ | ⟨s0, s1, s2⟩ | ⟨s0, s1, s2, s3⟩ | ⟨s0, s1, s2, s3, s4⟩
  all_goals
    go_enter Tryz.func23, Tryz.ntmps23
    go_wp2_with (first
      | (go_at_call 42
         refine (wText_any base g v _ f.p _ HP0.out.1 (HS.out.le HP0.out) (by simp only [List.length_append, bBuf_len, bInt_len, bLong_len, bBool, List.length_singleton, List.length_nil, ← bsize_eq]; omega)).mono ?_
         rintro e w2 ⟨rfl, v1, hp⟩
         have HP1 := Lib.hid (HP0.out.cat (Below.refl _ _) hp)
         clear hp
         clear HP0 d1))
    go_end0
    have HPE := HP1.out
    exact ⟨rfl, v1, HPE.from HS.out.b1⟩
set_option maxRecDepth 100000 in
set_option maxHeartbeats 20000000 in
theorem put_g7 {w0 w : World} {lo : Option Nat} (t : Int) (htt : t ∈ ([3, 4, 8, 12] : List Int)) (f : OpF) (d a k0 k1 k2 k3 k4 i s : Sl) (base g : Nat) (v : Value) (l : List UInt8) (ht : f.t = t) (h : FAt w0 lo f d a k0 k1 k2 k3 k4 i) (hw : w0.heap.size ≤ base) (hg : base ≤ g) (hb0 : Below w0.heap.size w0 w) (hv : Wr w base g v l) (hbase : base ≤ w.heap.size) (hsz : l.length + (fldB f).length + 64 ≤ 140737488355328) :
    Calls Tryz.prog 23 #[.pointer (some ⟨g, 0, none⟩), .agg (f.row d a k0 k1 k2 k3 k4 i s).toArray] w fun e w' => e = .returned (.tuple #[]) ∧ ∃ v', Wrote base g v v' l (fldB f) w w' := by
  have hfb : fldB f = bBuf f.p.data.toList ++ bBool f.wa := by
    unfold fldB
    rw [ht]
    clear ht
    simp only [List.mem_cons, List.not_mem_nil, or_false] at htt
    rcases htt with rfl | rfl | rfl | rfl <;> rfl
  rw [hfb] at hsz ⊢
  clear hfb
  have HS0 := PutSt.mk' (f.row d a k0 k1 k2 k3 k4 i s).toArray hw hg hb0 hv hbase
  obtain ⟨w1, hw1⟩ : ∃ w1, w.alloc (.cells (f.row d a k0 k1 k2 k3 k4 i s).toArray 29) = w1 := ⟨_, rfl⟩
  rw [hw1] at HS0
  have HS := Lib.hid HS0
  have HF := Lib.hid h
  have HP0 : Hid (Wrote base g v v l [] w1 w1) := Wrote.start HS0.wr
  have d0 := HS0.cell HP0.out 0 (u := .int .i32 t) (by rw [← ht]; rfl)
  have d1 := HS0.cell HP0.out 1 (u := .string f.p) rfl
  have hla := h.a.len
  have hli := h.i.len
  simp only [List.length_append, bBuf_len, bInt_len, bLong_len, bBool, List.length_singleton, List.length_nil, ← bsize_eq] at hsz
  obtain ⟨cs, hcs⟩ : ∃ cs : Array Value, cs = (f.row d a k0 k1 k2 k3 k4 i s).toArray := ⟨_, rfl⟩
  rw [← hcs] at hw1 ⊢
  clear HS0 h hw hg hb0 hv hbase ht hcs
  obtain ⟨n0, n1, n2, n3, n4, n5, n6, n7, n8, n9, n10, n11, n12, n13, n14, n15, n16, n17, n18, n19, _⟩ := sw_all (cs := [1, 15, 19, 21, 2, 13, 5, 7, 120, 121, 6, 9, 103, 104, 101, 106, 18, (-10), 14, 22]) htt rfl
  have S : ((t == 3) = true) ∨ ((t == 3) = false ∧ (t == 4) = true) ∨ ((t == 3) = false ∧ (t == 4) = false ∧ (t == 8) = true) ∨ ((t == 3) = false ∧ (t == 4) = false ∧ (t == 8) = false ∧ (t == 12) = true) := by
    simp only [List.mem_cons, List.not_mem_nil, or_false] at htt
    rcases htt with rfl | rfl | rfl | rfl <;> decide
  clear htt
  rcases S with s0 | ⟨s0, s1⟩ | ⟨s0, s1, s2⟩ | ⟨s0, s1, s2, s3⟩
  all_goals
    go_enter Tryz.func23, Tryz.ntmps23
    go_wp2_with (first
      | (go_at_call 42
         refine (wText_any base g v _ f.p _ HP0.out.1 (HS.out.le HP0.out) (by simp only [List.length_append, bBuf_len, bInt_len, bLong_len, bBool, List.length_singleton, List.length_nil, ← bsize_eq]; omega)).mono ?_
         rintro e w2 ⟨rfl, v1, hp⟩
         have HP1 := Lib.hid (HP0.out.cat (Below.refl _ _) hp)
         clear hp
         have d6 := HS.out.cell HP1.out 6 (u := .bool f.wa) rfl
         clear HP0 d1)
      | (go_at_call 46
         refine (wBool_any base g v1 _ _ _ HP1.out.1 (HS.out.le HP1.out) (by simp only [List.length_append, bBuf_len, bInt_len, bLong_len, bBool, List.length_singleton, List.length_nil, ← bsize_eq]; omega)).mono ?_
         rintro e w3 ⟨rfl, v2, hp⟩
         have HP2 := Lib.hid (HP1.out.cat (Below.refl _ _) hp)
         clear hp
         clear HP1 d6))
    go_end0
    have HPE := HP2.out
    exact ⟨rfl, v2, HPE.from HS.out.b1⟩
set_option maxRecDepth 100000 in
set_option maxHeartbeats 20000000 in
theorem put_g8 {w0 w : World} {lo : Option Nat} (t : Int) (htt : t ∈ ([106, 18] : List Int)) (f : OpF) (d a k0 k1 k2 k3 k4 i s : Sl) (base g : Nat) (v : Value) (l : List UInt8) (ht : f.t = t) (h : FAt w0 lo f d a k0 k1 k2 k3 k4 i) (hw : w0.heap.size ≤ base) (hg : base ≤ g) (hb0 : Below w0.heap.size w0 w) (hv : Wr w base g v l) (hbase : base ≤ w.heap.size) (hsz : l.length + (fldB f).length + 64 ≤ 140737488355328) :
    Calls Tryz.prog 23 #[.pointer (some ⟨g, 0, none⟩), .agg (f.row d a k0 k1 k2 k3 k4 i s).toArray] w fun e w' => e = .returned (.tuple #[]) ∧ ∃ v', Wrote base g v v' l (fldB f) w w' := by
  have hfb : fldB f = bBuf f.p.data.toList ++ bInt f.fl := by
    unfold fldB
    rw [ht]
    clear ht
    simp only [List.mem_cons, List.not_mem_nil, or_false] at htt
    rcases htt with rfl | rfl <;> rfl
  rw [hfb] at hsz ⊢
  clear hfb
  have HS0 := PutSt.mk' (f.row d a k0 k1 k2 k3 k4 i s).toArray hw hg hb0 hv hbase
  obtain ⟨w1, hw1⟩ : ∃ w1, w.alloc (.cells (f.row d a k0 k1 k2 k3 k4 i s).toArray 29) = w1 := ⟨_, rfl⟩
  rw [hw1] at HS0
  have HS := Lib.hid HS0
  have HF := Lib.hid h
  have HP0 : Hid (Wrote base g v v l [] w1 w1) := Wrote.start HS0.wr
  have d0 := HS0.cell HP0.out 0 (u := .int .i32 t) (by rw [← ht]; rfl)
  have d1 := HS0.cell HP0.out 1 (u := .string f.p) rfl
  have hla := h.a.len
  have hli := h.i.len
  simp only [List.length_append, bBuf_len, bInt_len, bLong_len, bBool, List.length_singleton, List.length_nil, ← bsize_eq] at hsz
  obtain ⟨cs, hcs⟩ : ∃ cs : Array Value, cs = (f.row d a k0 k1 k2 k3 k4 i s).toArray := ⟨_, rfl⟩
  rw [← hcs] at hw1 ⊢
  clear HS0 h hw hg hb0 hv hbase ht hcs
  obtain ⟨n0, n1, n2, n3, n4, n5, n6, n7, n8, n9, n10, n11, n12, n13, n14, n15, n16, n17, n18, n19, n20, n21, _⟩ := sw_all (cs := [1, 15, 19, 21, 2, 13, 5, 7, 120, 121, 6, 9, 103, 104, 3, 4, 8, 12, 101, (-10), 14, 22]) htt rfl
  have S : ((t == 106) = true) ∨ ((t == 106) = false ∧ (t == 18) = true) := by
    simp only [List.mem_cons, List.not_mem_nil, or_false] at htt
    rcases htt with rfl | rfl <;> decide
  clear htt
  rcases S with s0 | ⟨s0, s1⟩
  all_goals
    go_enter Tryz.func23, Tryz.ntmps23
    go_wp2_with (first
      | (go_at_call 42
         refine (wText_any base g v _ f.p _ HP0.out.1 (HS.out.le HP0.out) (by simp only [List.length_append, bBuf_len, bInt_len, bLong_len, bBool, List.length_singleton, List.length_nil, ← bsize_eq]; omega)).mono ?_
         rintro e w2 ⟨rfl, v1, hp⟩
         have HP1 := Lib.hid (HP0.out.cat (Below.refl _ _) hp)
         clear hp
         have d4 := HS.out.cell HP1.out 4 (u := .int .i32 f.fl) rfl
         clear HP0 d1)
      | (go_at_call 40
         refine (wInt_any base g v1 _ _ _ HP1.out.1 (HS.out.le HP1.out) (by simp only [List.length_append, bBuf_len, bInt_len, bLong_len, bBool, List.length_singleton, List.length_nil, ← bsize_eq]; omega)).mono ?_
         rintro e w3 ⟨rfl, v2, hp⟩
         have HP2 := Lib.hid (HP1.out.cat (Below.refl _ _) hp)
         clear hp
         clear HP1 d4))
    go_end0
    have HPE := HP2.out
    exact ⟨rfl, v2, HPE.from HS.out.b1⟩
set_option maxRecDepth 100000 in
set_option maxHeartbeats 20000000 in
theorem put_g9 {w0 w : World} {lo : Option Nat} (t : Int) (htt : t ∈ ([(-10)] : List Int)) (f : OpF) (d a k0 k1 k2 k3 k4 i s : Sl) (base g : Nat) (v : Value) (l : List UInt8) (ht : f.t = t) (h : FAt w0 lo f d a k0 k1 k2 k3 k4 i) (hw : w0.heap.size ≤ base) (hg : base ≤ g) (hb0 : Below w0.heap.size w0 w) (hv : Wr w base g v l) (hbase : base ≤ w.heap.size) (hsz : l.length + (fldB f).length + 64 ≤ 140737488355328) :
    Calls Tryz.prog 23 #[.pointer (some ⟨g, 0, none⟩), .agg (f.row d a k0 k1 k2 k3 k4 i s).toArray] w fun e w' => e = .returned (.tuple #[]) ∧ ∃ v', Wrote base g v v' l (fldB f) w w' := by
  have hfb : fldB f = bInt f.to ++ (bInt f.I.length ++ pIdsB f.I) := by
    unfold fldB
    rw [ht]
    clear ht
    simp only [List.mem_cons, List.not_mem_nil, or_false] at htt
    rcases htt with rfl <;> rfl
  rw [hfb] at hsz ⊢
  clear hfb
  have HS0 := PutSt.mk' (f.row d a k0 k1 k2 k3 k4 i s).toArray hw hg hb0 hv hbase
  obtain ⟨w1, hw1⟩ : ∃ w1, w.alloc (.cells (f.row d a k0 k1 k2 k3 k4 i s).toArray 29) = w1 := ⟨_, rfl⟩
  rw [hw1] at HS0
  have HS := Lib.hid HS0
  have HF := Lib.hid h
  have HP0 : Hid (Wrote base g v v l [] w1 w1) := Wrote.start HS0.wr
  have d0 := HS0.cell HP0.out 0 (u := .int .i32 t) (by rw [← ht]; rfl)
  have d16 := HS0.cell HP0.out 16 (u := .int .i32 f.to) rfl
  have hla := h.a.len
  have hli := h.i.len
  simp only [List.length_append, bBuf_len, bInt_len, bLong_len, bBool, List.length_singleton, List.length_nil, ← bsize_eq] at hsz
  obtain ⟨cs, hcs⟩ : ∃ cs : Array Value, cs = (f.row d a k0 k1 k2 k3 k4 i s).toArray := ⟨_, rfl⟩
  rw [← hcs] at hw1 ⊢
  clear HS0 h hw hg hb0 hv hbase ht hcs
  obtain ⟨n0, n1, n2, n3, n4, n5, n6, n7, n8, n9, n10, n11, n12, n13, n14, n15, n16, n17, n18, n19, n20, n21, n22, _⟩ := sw_all (cs := [1, 15, 19, 21, 2, 13, 5, 7, 120, 121, 6, 9, 103, 104, 3, 4, 8, 12, 101, 106, 18, 14, 22]) htt rfl
  have S : ((t == (-10)) = true) := by
    simp only [List.mem_cons, List.not_mem_nil, or_false] at htt
    rcases htt with rfl <;> decide
  clear htt
  go_enter Tryz.func23, Tryz.ntmps23
  go_wp2_with (first
    | (go_at_call 40
       refine (wInt_any base g v _ _ _ HP0.out.1 (HS.out.le HP0.out) (by simp only [List.length_append, bBuf_len, bInt_len, bLong_len, bBool, List.length_singleton, List.length_nil, ← bsize_eq]; omega)).mono ?_
       rintro e w2 ⟨rfl, v1, hp⟩
       have HP1 := Lib.hid (HP0.out.cat (Below.refl _ _) hp)
       clear hp
       have d17 := HS.out.cell HP1.out 17 (u := .slice i.A i.n i.c) rfl
       clear HP0 d16)
    | (go_at_call 48
       refine (aclPutIds_any base g v1 _ i.A i.n i.c w0.heap.size f.I _ HP1.out.1 (HF.out.i.reads.below (HS.out.below HP1.out)) HS.out.base0 HS.out.bg (HS.out.le HP1.out) (Nat.le_trans (HF.out.i.bd (by decide)) (by decide)) (by simp only [List.length_append, bBuf_len, bInt_len, bLong_len, bBool, List.length_singleton, List.length_nil, ← bsize_eq]; omega)).mono ?_
       rintro e w3 ⟨rfl, v2, hp⟩
       have HP2 := Lib.hid (HP1.out.cat (Below.refl _ _) hp)
       clear hp
       clear HP1 d17))
  go_end0
  have HPE := HP2.out
  rw [← hli] at HPE
  exact ⟨rfl, v2, HPE.from HS.out.b1⟩
end Go.Proofs.YtpjjnmdfgcfnmaaGreatDoor
