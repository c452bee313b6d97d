/- A result: its content, where it lies in memory, as it was read. (printed by gen_s1.py) -/
import Derived.Test.YtnbaajplelchjaaGreatDoorOpr
import Derived.Test.YtnbaajplelchjaaGreatDoorOacl
import Derived.Test.YtnbaajplelchjaaGreatDoorSuw
set_option linter.unusedVariables false
set_option linter.unusedSimpArgs false
namespace Go.Proofs.YtnbaajplelchjaaGreatDoor
open Go.ChangeShapes Go.WideShapes Go.ChangeAt Go.RowKit

/-- where a list lies -/
structure Sl where
  (A : Option Addr)
  (n c : Nat)
def Sl.v (s : Sl) : Value := .slice s.A s.n s.c
/-- a Stat's fields -/
structure StT where
  (s0 s1 s2 s3 s4 s5 s6 s7 s8 s9 s10 : Int)
def StT.row (x : StT) : List Value := [.int .i64 x.s0, .int .i64 x.s1, .int .i64 x.s2, .int .i64 x.s3, .int .i32 x.s4, .int .i32 x.s5, .int .i32 x.s6, .int .i64 x.s7, .int .i32 x.s8, .int .i32 x.s9, .int .i64 x.s10]
/-- a result's own fields: what they hold -/
structure ResF where
  (t c : Int) (p : ByteArray) (st : StT) (l : List UInt8) (L : List AclT) (K : List ByteArray) (n id to : Int) (I : List (ByteArray × ByteArray))
/-- a result with all that stands in it: what it holds -/
inductive ResC where
  | mk (f : ResF) (S : List ResC)
def ResC.f : ResC → ResF
  | .mk f _ => f
def ResC.S : ResC → List ResC
  | .mk _ S => S
def strCells (L : List ByteArray) : List Value := L.flatMap fun s => [.string s]
def idCells (I : List (ByteArray × ByteArray)) : List Value := I.flatMap fun x => [.string x.1, .string x.2]
/-- the cells of a result whose lists lie there -/
def ResF.row (f : ResF) (d a k i s : Sl) : List Value := [.int .i32 f.t, .int .i32 f.c, .string f.p, .int .i64 f.st.s0, .int .i64 f.st.s1, .int .i64 f.st.s2, .int .i64 f.st.s3, .int .i32 f.st.s4, .int .i32 f.st.s5, .int .i32 f.st.s6, .int .i64 f.st.s7, .int .i32 f.st.s8, .int .i32 f.st.s9, .int .i64 f.st.s10, d.v, a.v, k.v, .int .i32 f.n, .int .i64 f.id, .int .i32 f.to, i.v, s.v]
theorem ResF.row_len (f : ResF) (d a k i s : Sl) : (f.row d a k i s).length = 22 := rfl
/-- a list of a type's rows in memory; of the call's own, from a block on -/
structure SlAt (w : World) (lo : Option Nat) (e : TypeId) (size bytes : Nat) (s : Sl) (len : Nat) (xs : List Value) : Prop where
  nil : s.A = none → s.n = 0 ∧ s.c = 0
  le : s.n ≤ s.c
  cap : s.c ≤ maxLen
  reach : s.n * bytes ≤ reachBytes
  len : len = s.n
  reads : Reads w w.heap.size size s.A s.n xs
  own : ∀ b, lo = some b → w.ownsRow b e size s.v s.n xs
theorem SlAt.later {w w' : World} {lo : Option Nat} {e : TypeId} {size bytes len : Nat} {s : Sl} {xs : List Value} (h : SlAt w lo e size bytes s len xs) (hb : Below w.heap.size w w') : SlAt w' lo e size bytes s len xs :=
  ⟨h.nil, h.le, h.cap, h.reach, h.len, (h.reads.below hb).more hb.size, fun b hl => own_below (h.own b hl) hb⟩
theorem SlAt.any {w : World} {lo : Option Nat} {e : TypeId} {size bytes len : Nat} {s : Sl} {xs : List Value} (h : SlAt w lo e size bytes s len xs) : SlAt w none e size bytes s len xs :=
  ⟨h.nil, h.le, h.cap, h.reach, h.len, h.reads, fun _ hl => by cases hl⟩
/-- what was made by append is such a list -/
theorem SlAt.of_own {w : World} {b : Nat} {e : TypeId} {size bytes n c : Nat} {A : Option Addr} {xs : List Value} (h : w.ownsRow b e size (.slice A n c) n xs) (hr : n * bytes ≤ reachBytes) : SlAt w (some b) e size bytes ⟨A, n, c⟩ n xs := by
  refine ⟨fun e => own_nil h e, ?_, ?_, hr, rfl, Reads.of_own h, fun b' hl => by injection hl with hl; subst hl; exact h⟩
  · rcases h.2 with ⟨h1, h2⟩ | ⟨g, cap, cur, e1, e2, e3, e4, e5, e6⟩
    · injection h1 with _ _ h3
      subst h2 h3
      exact Nat.le_refl _
    · injection e1 with _ _ e1
      subst e1
      exact e4
  · rcases h.2 with ⟨h1, h2⟩ | ⟨g, cap, cur, e1, e2, e3, e4, e5, e6⟩
    · injection h1 with _ _ h3
      subst h3
      exact Nat.zero_le _
    · injection e1 with _ _ e1
      subst e1
      exact e5
/-- its numbers are of their kinds, its texts have lengths -/
structure ResF.Ok (f : ResF) : Prop where
  ints : (Lit.int .i32 f.t).wf = true ∧ (Lit.int .i32 f.c).wf = true ∧ (Lit.int .i32 f.n).wf = true ∧ (Lit.int .i64 f.id).wf = true ∧ (Lit.int .i32 f.to).wf = true
  stat : (Lit.int .i64 f.st.s0).wf = true ∧ (Lit.int .i64 f.st.s1).wf = true ∧ (Lit.int .i64 f.st.s2).wf = true ∧ (Lit.int .i64 f.st.s3).wf = true ∧ (Lit.int .i32 f.st.s4).wf = true ∧ (Lit.int .i32 f.st.s5).wf = true ∧ (Lit.int .i32 f.st.s6).wf = true ∧ (Lit.int .i64 f.st.s7).wf = true ∧ (Lit.int .i32 f.st.s8).wf = true ∧ (Lit.int .i32 f.st.s9).wf = true ∧ (Lit.int .i64 f.st.s10).wf = true
  p : f.p.size ≤ reachBytes
  acl : ∀ x ∈ f.L, (Lit.int .i32 x.1).wf = true ∧ x.2.1.size ≤ reachBytes ∧ x.2.2.size ≤ reachBytes
  names : ∀ x ∈ f.K, x.size ≤ reachBytes
  ids : ∀ x ∈ f.I, x.1.size ≤ reachBytes ∧ x.2.size ≤ reachBytes
/-- a result of that content lies in these cells -/
inductive At (w : World) (lo : Option Nat) : ResC → List Value → Prop
  | mk (f : ResF) (d a k i s : Sl) (Q : List (ResC × List Value)) (ok : f.Ok)
      (hd : SlAt w lo 5 1 1 d f.l.length (bcells f.l)) (ha : SlAt w lo 115 3 40 a f.L.length (aclCells f.L))
      (hk : SlAt w lo 9 1 16 k f.K.length (strCells f.K)) (hi : SlAt w lo 113 2 32 i f.I.length (idCells f.I))
      (hs : SlAt w lo 33 22 240 s Q.length (Q.flatMap Prod.snd)) (hQ : ∀ q ∈ Q, At w lo q.1 q.2) : At w lo (.mk f (Q.map Prod.fst)) (f.row d a k i s)
theorem At.later {w w' : World} {lo : Option Nat} {x : ResC} {cs : List Value} (h : At w lo x cs) (hb : Below w.heap.size w w') : At w' lo x cs := by
  induction h with
  | mk f d a k i s Q ok hd ha hk hi hs _ ih => exact .mk f d a k i s Q ok (hd.later hb) (ha.later hb) (hk.later hb) (hi.later hb) (hs.later hb) fun q hq => ih q hq
theorem At.any {w : World} {lo : Option Nat} {x : ResC} {cs : List Value} (h : At w lo x cs) : At w none x cs := by
  induction h with
  | mk f d a k i s Q ok hd ha hk hi hs _ ih => exact .mk f d a k i s Q ok hd.any ha.any hk.any hi.any hs.any fun q hq => ih q hq
theorem At.len {w : World} {lo : Option Nat} {x : ResC} {cs : List Value} (h : At w lo x cs) : cs.length = 22 := by
  cases h
  rfl

section
variable {H : Type} {enc : TypeId × Value → H} {w : World}

set_option maxRecDepth 100000 in
theorem acl_open {cs : List Value} (h : Rd enc Tryz.prog w 115 cs) : ∃ x : Int × ByteArray × ByteArray, cs = [.int .i32 x.1, .string x.2.1, .string x.2.2] ∧ (Lit.int .i32 x.1).wf = true ∧ x.2.1.size ≤ reachBytes ∧ x.2.2.size ≤ reachBytes := by
  have k1 : Tryz.prog.cellsOf 21 = 1 := by kernel_rfl
  have k2 : Tryz.prog.cellsOf 113 = 2 := by kernel_rfl
  have k3 : Tryz.prog.cellsOf 9 = 1 := by kernel_rfl
  obtain ⟨hl, hf⟩ := h.struct Tryz.underlying115
  rw [show Tryz.prog.cellsOf 115 = 3 by kernel_rfl] at hl
  obtain ⟨c0, c1, c2, rfl⟩ : ∃ c0 c1 c2, cs = [c0, c1, c2] := by
    match cs, hl with
    | [c0, c1, c2], _ => exact ⟨_, _, _, rfl⟩
  have h0 : Rd enc Tryz.prog w 21 (([c0, c1, c2].drop 0).take (Tryz.prog.cellsOf 21)) := hf 0 _ rfl
  have h1 : Rd enc Tryz.prog w 113 (([c0, c1, c2].drop 1).take (Tryz.prog.cellsOf 113)) := hf 1 _ rfl
  rw [k1] at h0
  rw [k2] at h1
  obtain ⟨_, hg⟩ := h1.struct Tryz.underlying113
  have h2 : Rd enc Tryz.prog w 9 (((([c0, c1, c2].drop 1).take 2).drop 0).take (Tryz.prog.cellsOf 9)) := hg 0 _ rfl
  have h3 : Rd enc Tryz.prog w 9 (((([c0, c1, c2].drop 1).take 2).drop 1).take (Tryz.prog.cellsOf 9)) := hg 1 _ rfl
  rw [k3] at h2 h3
  obtain ⟨z, e0, wz⟩ := h0.int Tryz.underlying21
  obtain ⟨s, e1, ws⟩ := h2.string Tryz.underlying9
  obtain ⟨i, e2, wi⟩ := h3.string Tryz.underlying9
  simp at e0 e1 e2
  subst e0 e1 e2
  exact ⟨(z, s, i), rfl, wz, ws, wi⟩
set_option maxRecDepth 100000 in
/-- a list of texts -/
theorem strs_open {cs : List Value} (h : Rd enc Tryz.prog w 27 cs) : ∃ (s : Sl) (L : List ByteArray), cs = [s.v] ∧ SlAt w none 9 1 16 s L.length (strCells L) ∧ ∀ x ∈ L, x.size ≤ reachBytes := by
  obtain ⟨A, n, c, L, e, h1, h2, hc, h3, h4, h5, h6⟩ := h.rows Tryz.underlying27 (size := 1) (by kernel_rfl) (by decide) (fun s : ByteArray => [Value.string s]) (fun s => s.size ≤ reachBytes) (fun cs' hr => by
    obtain ⟨s, hs, hb⟩ := hr.string Tryz.underlying9
    exact ⟨s, hs, hb⟩)
  rw [show Tryz.prog.bytesOf 9 = 16 by kernel_rfl] at h3
  exact ⟨⟨A, n, c⟩, L, e, ⟨h1, h2, hc, Nat.le_trans (Nat.mul_le_mul_right _ h2) h3, h4, h6, fun _ hl => by cases hl⟩, h5⟩
set_option maxRecDepth 100000 in
theorem id_open {cs : List Value} (h : Rd enc Tryz.prog w 113 cs) : ∃ x : ByteArray × ByteArray, cs = [.string x.1, .string x.2] ∧ x.1.size ≤ reachBytes ∧ x.2.size ≤ reachBytes := by
  have k3 : Tryz.prog.cellsOf 9 = 1 := by kernel_rfl
  obtain ⟨hl, hf⟩ := h.struct Tryz.underlying113
  rw [show Tryz.prog.cellsOf 113 = 2 by kernel_rfl] at hl
  obtain ⟨c0, c1, rfl⟩ : ∃ c0 c1, cs = [c0, c1] := by
    match cs, hl with
    | [c0, c1], _ => exact ⟨_, _, rfl⟩
  have h0 : Rd enc Tryz.prog w 9 (([c0, c1].drop 0).take (Tryz.prog.cellsOf 9)) := hf 0 _ rfl
  have h1 : Rd enc Tryz.prog w 9 (([c0, c1].drop 1).take (Tryz.prog.cellsOf 9)) := hf 1 _ rfl
  rw [k3] at h0 h1
  obtain ⟨s, e0, ws⟩ := h0.string Tryz.underlying9
  obtain ⟨i, e1, wi⟩ := h1.string Tryz.underlying9
  simp at e0 e1
  subst e0 e1
  exact ⟨(s, i), rfl, ws, wi⟩
set_option maxRecDepth 100000 in
theorem ids_open {cs : List Value} (h : Rd enc Tryz.prog w 28 cs) : ∃ (s : Sl) (L : List (ByteArray × ByteArray)), cs = [s.v] ∧ SlAt w none 113 2 32 s L.length (idCells L) ∧ ∀ x ∈ L, x.1.size ≤ reachBytes ∧ x.2.size ≤ reachBytes := by
  obtain ⟨A, n, c, L, e, h1, h2, hc, h3, h4, h5, h6⟩ := h.rows Tryz.underlying28 (size := 2) (by kernel_rfl) (by decide) (fun x : ByteArray × ByteArray => [Value.string x.1, Value.string x.2]) _ (fun cs' hr => id_open hr)
  rw [show Tryz.prog.bytesOf 113 = 32 by kernel_rfl] at h3
  exact ⟨⟨A, n, c⟩, L, e, ⟨h1, h2, hc, Nat.le_trans (Nat.mul_le_mul_right _ h2) h3, h4, h6, fun _ hl => by cases hl⟩, h5⟩


set_option maxRecDepth 100000 in
theorem cells_list22 {α : Type} (cs : List α) (h : cs.length = 22) : ∃ c0 c1 c2 c3 c4 c5 c6 c7 c8 c9 c10 c11 c12 c13 c14 c15 c16 c17 c18 c19 c20 c21, cs = [c0, c1, c2, c3, c4, c5, c6, c7, c8, c9, c10, c11, c12, c13, c14, c15, c16, c17, c18, c19, c20, c21] := by
  match cs, h with
  | [c0, c1, c2, c3, c4, c5, c6, c7, c8, c9, c10, c11, c12, c13, c14, c15, c16, c17, c18, c19, c20, c21], _ => exact ⟨_, _, _, _, _, _, _, _, _, _, _, _, _, _, _, _, _, _, _, _, _, _, rfl⟩
set_option maxRecDepth 100000 in
theorem stat_open {cs : List Value} (h : Rd enc Tryz.prog w 24 cs) : ∃ x : StT, cs = x.row ∧ (Lit.int .i64 x.s0).wf = true ∧ (Lit.int .i64 x.s1).wf = true ∧ (Lit.int .i64 x.s2).wf = true ∧ (Lit.int .i64 x.s3).wf = true ∧ (Lit.int .i32 x.s4).wf = true ∧ (Lit.int .i32 x.s5).wf = true ∧ (Lit.int .i32 x.s6).wf = true ∧ (Lit.int .i64 x.s7).wf = true ∧ (Lit.int .i32 x.s8).wf = true ∧ (Lit.int .i32 x.s9).wf = true ∧ (Lit.int .i64 x.s10).wf = true := by
  obtain ⟨hl, hf⟩ := h.struct Tryz.underlying24
  rw [show Tryz.prog.cellsOf 24 = 11 by kernel_rfl] at hl
  have kint64 : Tryz.prog.cellsOf 2 = 1 := by kernel_rfl
  have kint32 : Tryz.prog.cellsOf 21 = 1 := by kernel_rfl
  obtain ⟨c0, c1, c2, c3, c4, c5, c6, c7, c8, c9, c10, rfl⟩ : ∃ c0 c1 c2 c3 c4 c5 c6 c7 c8 c9 c10 : Value, cs = [c0, c1, c2, c3, c4, c5, c6, c7, c8, c9, c10] := by
    match cs, hl with
    | [c0, c1, c2, c3, c4, c5, c6, c7, c8, c9, c10], _ => exact ⟨_, _, _, _, _, _, _, _, _, _, _, rfl⟩
  have h0 : Rd enc Tryz.prog w 2 (([c0, c1, c2, c3, c4, c5, c6, c7, c8, c9, c10].drop 0).take (Tryz.prog.cellsOf 2)) := hf 0 _ rfl
  rw [kint64] at h0
  have h1 : Rd enc Tryz.prog w 2 (([c0, c1, c2, c3, c4, c5, c6, c7, c8, c9, c10].drop 1).take (Tryz.prog.cellsOf 2)) := hf 1 _ rfl
  rw [kint64] at h1
  have h2 : Rd enc Tryz.prog w 2 (([c0, c1, c2, c3, c4, c5, c6, c7, c8, c9, c10].drop 2).take (Tryz.prog.cellsOf 2)) := hf 2 _ rfl
  rw [kint64] at h2
  have h3 : Rd enc Tryz.prog w 2 (([c0, c1, c2, c3, c4, c5, c6, c7, c8, c9, c10].drop 3).take (Tryz.prog.cellsOf 2)) := hf 3 _ rfl
  rw [kint64] at h3
  have h4 : Rd enc Tryz.prog w 21 (([c0, c1, c2, c3, c4, c5, c6, c7, c8, c9, c10].drop 4).take (Tryz.prog.cellsOf 21)) := hf 4 _ rfl
  rw [kint32] at h4
  have h5 : Rd enc Tryz.prog w 21 (([c0, c1, c2, c3, c4, c5, c6, c7, c8, c9, c10].drop 5).take (Tryz.prog.cellsOf 21)) := hf 5 _ rfl
  rw [kint32] at h5
  have h6 : Rd enc Tryz.prog w 21 (([c0, c1, c2, c3, c4, c5, c6, c7, c8, c9, c10].drop 6).take (Tryz.prog.cellsOf 21)) := hf 6 _ rfl
  rw [kint32] at h6
  have h7 : Rd enc Tryz.prog w 2 (([c0, c1, c2, c3, c4, c5, c6, c7, c8, c9, c10].drop 7).take (Tryz.prog.cellsOf 2)) := hf 7 _ rfl
  rw [kint64] at h7
  have h8 : Rd enc Tryz.prog w 21 (([c0, c1, c2, c3, c4, c5, c6, c7, c8, c9, c10].drop 8).take (Tryz.prog.cellsOf 21)) := hf 8 _ rfl
  rw [kint32] at h8
  have h9 : Rd enc Tryz.prog w 21 (([c0, c1, c2, c3, c4, c5, c6, c7, c8, c9, c10].drop 9).take (Tryz.prog.cellsOf 21)) := hf 9 _ rfl
  rw [kint32] at h9
  have h10 : Rd enc Tryz.prog w 2 (([c0, c1, c2, c3, c4, c5, c6, c7, c8, c9, c10].drop 10).take (Tryz.prog.cellsOf 2)) := hf 10 _ rfl
  rw [kint64] at h10
  obtain ⟨a0, e0, w0⟩ := h0.int Tryz.underlying2
  obtain ⟨a1, e1, w1⟩ := h1.int Tryz.underlying2
  obtain ⟨a2, e2, w2⟩ := h2.int Tryz.underlying2
  obtain ⟨a3, e3, w3⟩ := h3.int Tryz.underlying2
  obtain ⟨a4, e4, w4⟩ := h4.int Tryz.underlying21
  obtain ⟨a5, e5, w5⟩ := h5.int Tryz.underlying21
  obtain ⟨a6, e6, w6⟩ := h6.int Tryz.underlying21
  obtain ⟨a7, e7, w7⟩ := h7.int Tryz.underlying2
  obtain ⟨a8, e8, w8⟩ := h8.int Tryz.underlying21
  obtain ⟨a9, e9, w9⟩ := h9.int Tryz.underlying21
  obtain ⟨a10, e10, w10⟩ := h10.int Tryz.underlying2
  simp at e0 e1 e2 e3 e4 e5 e6 e7 e8 e9 e10
  subst e0 e1 e2 e3 e4 e5 e6 e7 e8 e9 e10
  exact ⟨⟨a0, a1, a2, a3, a4, a5, a6, a7, a8, a9, a10⟩, rfl, w0, w1, w2, w3, w4, w5, w6, w7, w8, w9, w10⟩

set_option maxRecDepth 100000 in
set_option maxHeartbeats 4000000 in
theorem res_openN : ∀ (N : Nat) (d : DataW H), SizeOf.sizeOf d ≤ N → ∀ cs, RdD enc Tryz.prog w 33 cs d → ∃ x : ResC, At w none x cs := by
  intro N
  induction N with
  | zero =>
    intro d hd
    cases d <;> (exact absurd hd (by simp))
  | succ N ih =>
    intro d hd cs h
    obtain ⟨hl, hf⟩ := h.struct Tryz.underlying33
    rw [show Tryz.prog.cellsOf 33 = 22 by kernel_rfl] at hl
    obtain ⟨c0, c1, c2, c3, c4, c5, c6, c7, c8, c9, c10, c11, c12, c13, c14, c15, c16, c17, c18, c19, c20, c21, rfl⟩ := cells_list22 cs hl
    obtain ⟨d0, z0, h0⟩ : ∃ d' : DataW H, SizeOf.sizeOf d' < SizeOf.sizeOf d ∧ RdD enc Tryz.prog w 21 (([c0, c1, c2, c3, c4, c5, c6, c7, c8, c9, c10, c11, c12, c13, c14, c15, c16, c17, c18, c19, c20, c21].drop 0).take (Tryz.prog.cellsOf 21)) d' := hf 0 _ rfl
    rw [show Tryz.prog.cellsOf 21 = 1 by kernel_rfl] at h0
    obtain ⟨d1, z1, h1⟩ : ∃ d' : DataW H, SizeOf.sizeOf d' < SizeOf.sizeOf d ∧ RdD enc Tryz.prog w 22 (([c0, c1, c2, c3, c4, c5, c6, c7, c8, c9, c10, c11, c12, c13, c14, c15, c16, c17, c18, c19, c20, c21].drop 1).take (Tryz.prog.cellsOf 22)) d' := hf 1 _ rfl
    rw [show Tryz.prog.cellsOf 22 = 1 by kernel_rfl] at h1
    obtain ⟨d2, z2, h2⟩ : ∃ d' : DataW H, SizeOf.sizeOf d' < SizeOf.sizeOf d ∧ RdD enc Tryz.prog w 9 (([c0, c1, c2, c3, c4, c5, c6, c7, c8, c9, c10, c11, c12, c13, c14, c15, c16, c17, c18, c19, c20, c21].drop 2).take (Tryz.prog.cellsOf 9)) d' := hf 2 _ rfl
    rw [show Tryz.prog.cellsOf 9 = 1 by kernel_rfl] at h2
    obtain ⟨d3, z3, h3⟩ : ∃ d' : DataW H, SizeOf.sizeOf d' < SizeOf.sizeOf d ∧ RdD enc Tryz.prog w 24 (([c0, c1, c2, c3, c4, c5, c6, c7, c8, c9, c10, c11, c12, c13, c14, c15, c16, c17, c18, c19, c20, c21].drop 3).take (Tryz.prog.cellsOf 24)) d' := hf 3 _ rfl
    rw [show Tryz.prog.cellsOf 24 = 11 by kernel_rfl] at h3
    obtain ⟨d4, z4, h4⟩ : ∃ d' : DataW H, SizeOf.sizeOf d' < SizeOf.sizeOf d ∧ RdD enc Tryz.prog w 25 (([c0, c1, c2, c3, c4, c5, c6, c7, c8, c9, c10, c11, c12, c13, c14, c15, c16, c17, c18, c19, c20, c21].drop 14).take (Tryz.prog.cellsOf 25)) d' := hf 4 _ rfl
    rw [show Tryz.prog.cellsOf 25 = 1 by kernel_rfl] at h4
    obtain ⟨d5, z5, h5⟩ : ∃ d' : DataW H, SizeOf.sizeOf d' < SizeOf.sizeOf d ∧ RdD enc Tryz.prog w 26 (([c0, c1, c2, c3, c4, c5, c6, c7, c8, c9, c10, c11, c12, c13, c14, c15, c16, c17, c18, c19, c20, c21].drop 15).take (Tryz.prog.cellsOf 26)) d' := hf 5 _ rfl
    rw [show Tryz.prog.cellsOf 26 = 1 by kernel_rfl] at h5
    obtain ⟨d6, z6, h6⟩ : ∃ d' : DataW H, SizeOf.sizeOf d' < SizeOf.sizeOf d ∧ RdD enc Tryz.prog w 27 (([c0, c1, c2, c3, c4, c5, c6, c7, c8, c9, c10, c11, c12, c13, c14, c15, c16, c17, c18, c19, c20, c21].drop 16).take (Tryz.prog.cellsOf 27)) d' := hf 6 _ rfl
    rw [show Tryz.prog.cellsOf 27 = 1 by kernel_rfl] at h6
    obtain ⟨d7, z7, h7⟩ : ∃ d' : DataW H, SizeOf.sizeOf d' < SizeOf.sizeOf d ∧ RdD enc Tryz.prog w 21 (([c0, c1, c2, c3, c4, c5, c6, c7, c8, c9, c10, c11, c12, c13, c14, c15, c16, c17, c18, c19, c20, c21].drop 17).take (Tryz.prog.cellsOf 21)) d' := hf 7 _ rfl
    rw [show Tryz.prog.cellsOf 21 = 1 by kernel_rfl] at h7
    obtain ⟨d8, z8, h8⟩ : ∃ d' : DataW H, SizeOf.sizeOf d' < SizeOf.sizeOf d ∧ RdD enc Tryz.prog w 30 (([c0, c1, c2, c3, c4, c5, c6, c7, c8, c9, c10, c11, c12, c13, c14, c15, c16, c17, c18, c19, c20, c21].drop 18).take (Tryz.prog.cellsOf 30)) d' := hf 8 _ rfl
    rw [show Tryz.prog.cellsOf 30 = 3 by kernel_rfl] at h8
    obtain ⟨d9, z9, h9⟩ : ∃ d' : DataW H, SizeOf.sizeOf d' < SizeOf.sizeOf d ∧ RdD enc Tryz.prog w 31 (([c0, c1, c2, c3, c4, c5, c6, c7, c8, c9, c10, c11, c12, c13, c14, c15, c16, c17, c18, c19, c20, c21].drop 21).take (Tryz.prog.cellsOf 31)) d' := hf 9 _ rfl
    rw [show Tryz.prog.cellsOf 31 = 1 by kernel_rfl] at h9
    obtain ⟨t, e0, w0⟩ := h0.rd.int Tryz.underlying21
    obtain ⟨c, e1, w1⟩ := h1.rd.int Tryz.underlying22
    obtain ⟨p, e2, w2⟩ := h2.rd.string Tryz.underlying9
    obtain ⟨st, e3, w3⟩ := stat_open h3.rd
    obtain ⟨dA, dn, dc, l, e4, x1, x2, x3, x4, x5⟩ := h4.rd.bytes Tryz.underlying25 Tryz.underlying5 (by kernel_rfl) (by kernel_rfl)
    obtain ⟨aA, an, ac, L, e5, y1, y2, yc, y3, y4, y5, y6⟩ := h5.rd.rows Tryz.underlying26 (size := 3) (by kernel_rfl) (by decide) (fun a : Int × ByteArray × ByteArray => [Value.int .i32 a.1, .string a.2.1, .string a.2.2]) _ (fun _ hr => acl_open hr)
    rw [show Tryz.prog.bytesOf 115 = 40 by kernel_rfl] at y3
    obtain ⟨k, K, e6, g0, t0⟩ := strs_open h6.rd
    obtain ⟨n, e7, w7⟩ := h7.rd.int Tryz.underlying21
    obtain ⟨_, hg⟩ := h8.struct Tryz.underlying30
    obtain ⟨_, _, u0⟩ := hg 0 _ rfl
    obtain ⟨_, _, u1⟩ := hg 1 _ rfl
    obtain ⟨_, _, u2⟩ := hg 2 _ rfl
    have u0 : RdD enc Tryz.prog w 2 _ _ := u0
    have u1 : RdD enc Tryz.prog w 21 _ _ := u1
    have u2 : RdD enc Tryz.prog w 28 _ _ := u2
    obtain ⟨id, f0, v0⟩ := u0.rd.int Tryz.underlying2
    obtain ⟨to, f1, v1⟩ := u1.rd.int Tryz.underlying21
    obtain ⟨i, I, f2, i1, i2⟩ := ids_open u2.rd
    obtain rfl : c18 = .int .i64 id := by simpa using (show [c18] = [.int .i64 id] from f0)
    obtain rfl : c19 = .int .i32 to := by simpa using (show [c19] = [.int .i32 to] from f1)
    obtain rfl : c20 = i.v := by simpa using (show [c20] = [i.v] from f2)
    clear f0 f1 f2
    obtain ⟨sA, sn, sc, Q, e9, s1, s2, s2', s3, s4, s5, s6⟩ := h9.rows Tryz.underlying31 (size := 22) (by kernel_rfl) (by decide) (Prod.snd : ResC × List Value → List Value) (fun q => At w none q.1 q.2) (fun cs' d' hr hz => by
      obtain ⟨x, hx⟩ := ih d' (by omega) cs' hr
      exact ⟨(x, cs'), rfl, hx⟩)
    rw [show Tryz.prog.bytesOf 33 = 240 by kernel_rfl] at s3
    have e3 : [c3, c4, c5, c6, c7, c8, c9, c10, c11, c12, c13] = st.row := e3
    unfold StT.row at e3
    simp only [List.cons.injEq, and_true] at e3
    obtain ⟨q0, q1, q2, q3, q4, q5, q6, q7, q8, q9, q10⟩ := e3
    simp at e0 e1 e2 e4 e5 e6 e7 e9
    subst e0 e1 e2 e4 e5 e6 e7 e9 q0 q1 q2 q3 q4 q5 q6 q7 q8 q9 q10
    refine ⟨_, .mk ⟨t, c, p, st, l, L, K, n, id, to, I⟩ ⟨dA, dn, dc⟩ ⟨aA, an, ac⟩ k i ⟨sA, sn, sc⟩ Q ⟨⟨w0, w1, w7, v0, v1⟩, w3, w2, y5, t0, i2⟩ ⟨x1, x2, Nat.le_trans x3 (by decide), by rw [Nat.mul_one]; exact Nat.le_trans x2 x3, x4, x5, fun _ hl => by cases hl⟩ ⟨y1, y2, yc, Nat.le_trans (Nat.mul_le_mul_right _ y2) y3, y4, y6, fun _ hl => by cases hl⟩ g0 i1 ⟨s1, s2, s2', Nat.le_trans (Nat.mul_le_mul_right _ s2) s3, s4, s6, fun _ hl => by cases hl⟩ s5⟩
theorem res_open {cs : List Value} (h : Rd enc Tryz.prog w 33 cs) : ∃ x : ResC, At w none x cs := by
  obtain ⟨d, h⟩ := h.datum
  exact res_openN (SizeOf.sizeOf d) d (Nat.le_refl _) cs h
end
end Go.Proofs.YtnbaajplelchjaaGreatDoor
