/- A reading with its datum: for types that hold lists of themselves. -/
import Derived.Test.YtpjjnmdfgcfnmaaGreatDoorBase
set_option linter.unusedVariables false
set_option linter.unusedSimpArgs false
namespace Go.Proofs.YtpjjnmdfgcfnmaaGreatDoor
open Go.ChangeShapes Go.WideShapes Go.Deep Go.RowKit

section
variable {H : Type} {enc : TypeId × Value → H} {P : Program} {w : World} {t : TypeId} {cs : List Value} {d : DataW H}
def RdD (enc : TypeId × Value → H) (P : Program) (w : World) (t : TypeId) (cs : List Value) (d : DataW H) : Prop :=
  ∃ fuel pl, DataW.trod enc P w 0 (fun _ => true) true fuel t cs = some (d, pl) ∧ ∀ n ∈ d.weights P t, n ≤ reachBytes
theorem RdD.rd (h : RdD enc P w t cs d) : Rd enc P w t cs := by
  obtain ⟨fuel, pl, h1, h2⟩ := h
  exact ⟨fuel, (d, pl), h1, h2⟩
theorem Rd.datum (h : Rd enc P w t cs) : ∃ d, RdD enc P w t cs d := by
  obtain ⟨fuel, x, h1, h2⟩ := h
  exact ⟨x.1, fuel, x.2, h1, h2⟩
theorem RdD.struct {fs : Array Field} (h : RdD enc P w t cs d) (ht : P.underlying t = some (.struct fs)) : cs.length = P.cellsOf t ∧ ∀ (j : Nat) (f : Field), fs[j]? = some f → ∃ d' : DataW H, SizeOf.sizeOf d' < SizeOf.sizeOf d ∧ RdD enc P w f.type ((cs.drop f.offset).take (P.cellsOf f.type)) d' := by
  obtain ⟨fuel, pl, hx, hb⟩ := h
  obtain ⟨ys, n, _, hxy, hl, hyl, hf⟩ := DataW.trod_struct ht hx
  injection hxy with hd hpl
  subst hd
  refine ⟨hl, fun j f hj => ?_⟩
  have hjl : j < fs.size := (Array.getElem?_eq_some_iff.1 hj).1
  have hy : ys[j]? = some (ys[j]'(by omega)) := List.getElem?_eq_getElem (by omega)
  refine ⟨(ys[j]'(by omega)).1, ?_, n, (ys[j]'(by omega)).2, (hf j f hj).trans hy, fun m hm => hb m ?_⟩
  · have hm : (ys[j]'(by omega)).1 ∈ ys.map (·.1) := List.mem_map.2 ⟨_, List.getElem_mem _, rfl⟩
    have := List.sizeOf_lt_of_mem hm
    simp only [DataW.agg.sizeOf_spec]
    omega
  · simp only [DataW.weights, ht]
    refine DataW.weights_mem_each (j := j) (t := f.type) (d := (ys[j]'(by omega)).1) ?_ ?_ m hm
    · simp [hj]
    · simp [hy]
theorem RdD.slice {e : TypeId} (h : RdD enc P w t cs d) (ht : P.underlying t = some (.slice e)) : ∃ (A : Option Addr) (n c : Nat), cs = [.slice A n c] ∧ (A = none → n = 0 ∧ c = 0) ∧ n ≤ c ∧ c ≤ maxLen ∧ c * P.bytesOf e ≤ reachBytes ∧
    (0 < n → ∃ ad, A = some ad) ∧ ∀ i ad, i < n → A = some ad → ∃ (cs' : List Value) (d' : DataW H), w.cells? 0 (ad.add (i * P.cellsOf e)) (P.cellsOf e) = some cs' ∧ RdD enc P w e cs' d' ∧ SizeOf.sizeOf d' < SizeOf.sizeOf d := by
  obtain ⟨fuel, pl, hx, hb⟩ := h
  rcases open_slice ht hx with ⟨rfl, h0⟩ | ⟨a, len, cap, m, n, D, Pl, rfl, _, hl, hm, hmm, hxy, hi⟩
  · exact ⟨none, 0, 0, rfl, fun _ => ⟨rfl, rfl⟩, Nat.le_refl _, Nat.zero_le _, by simp, fun h => absurd h (by omega), fun i ad hi => absurd hi (by omega)⟩
  · injection hxy with hd hpl
    subst hd
    refine ⟨some a, len, cap, rfl, fun h => (by cases h), hl, hm, ?_, fun _ => ⟨a, rfl⟩, fun i ad hlt he => ?_⟩
    · simp only [if_true] at hmm
      subst hmm
      have := hb ((len + (m - len)) * P.bytesOf e) (by simp [DataW.weights, ht])
      rwa [show len + (m - len) = m by omega] at this
    · simp only [if_true] at hmm
      injection he with he
      subst he
      obtain ⟨cs', h1, h2⟩ := hi i (by omega)
      have hmem : D i ∈ (List.range len).map D := List.mem_map.2 ⟨i, List.mem_range.2 hlt, rfl⟩
      refine ⟨cs', D i, h1, ⟨n, _, h2, fun k hk => hb k ?_⟩, ?_⟩
      · simp only [DataW.weights, ht, List.mem_cons, List.mem_append]
        exact .inr (.inl (weightsAll_mem hmem hk))
      · have := List.sizeOf_lt_of_mem hmem
        simp only [DataW.slice.sizeOf_spec]
        omega
/-- a slice whose elements' cells are each told by a datum of ours -/
theorem RdD.rows {e : TypeId} {α : Type} (h : RdD enc P w t cs d) (ht : P.underlying t = some (.slice e)) {size : Nat} (hsize : P.cellsOf e = size) (hpos : 0 < size) (f : α → List Value) (R : α → Prop) (hf : ∀ (cs' : List Value) (d' : DataW H), RdD enc P w e cs' d' → SizeOf.sizeOf d' < SizeOf.sizeOf d → ∃ x, cs' = f x ∧ R x) :
    ∃ (A : Option Addr) (n c : Nat) (L : List α), cs = [.slice A n c] ∧ (A = none → n = 0 ∧ c = 0) ∧ n ≤ c ∧ c ≤ maxLen ∧ c * P.bytesOf e ≤ reachBytes ∧ L.length = n ∧ (∀ x ∈ L, R x) ∧ Reads w w.heap.size size A n (L.flatMap f) := by
  obtain ⟨A, n, c, rfl, h1, h2, h3, h4, h5, h6⟩ := h.slice ht
  rw [hsize] at h6
  rcases Nat.eq_zero_or_pos n with rfl | hn
  · exact ⟨A, 0, c, [], rfl, h1, h2, h3, h4, rfl, fun x hx => (by cases hx), by simpa using Reads.none_⟩
  obtain ⟨ad, rfl⟩ := h5 hn
  have key : ∀ i, i < n → ∃ x, R x ∧ (f x).length = size ∧ ∀ k u, (f x)[k]? = some u → w.cell? (ad.add (i * size + k)) = some u := by
    intro i hi
    obtain ⟨cs', d', hcs, hrd, hsz⟩ := h6 i ad hi rfl
    obtain ⟨_, hl, hat⟩ := World.cells?_some hcs
    obtain ⟨x, rfl, hR⟩ := hf cs' d' hrd hsz
    refine ⟨x, hR, hl, fun k u hu => ?_⟩
    have hk : k < size := by rw [← hl]; exact (List.getElem?_eq_some_iff.1 hu).1
    rw [← add_of_add, hat k hk, hu]
  have build : ∀ m, m ≤ n → ∃ L : List α, L.length = m ∧ (∀ x ∈ L, R x) ∧ (L.flatMap f).length = m * size ∧ ∀ j u, (L.flatMap f)[j]? = some u → w.cell? (ad.add j) = some u := by
    intro m
    induction m with
    | zero => exact fun _ => ⟨[], rfl, fun x hx => (by cases hx), by simp, fun j u hu => by simp at hu⟩
    | succ m ih =>
      intro hm
      obtain ⟨L, hL, hR, hlen, hc⟩ := ih (by omega)
      obtain ⟨x, hx, hl, hxc⟩ := key m (by omega)
      refine ⟨L ++ [x], by simp [hL], ?_, by simp [List.flatMap_append, hlen, hl, Nat.succ_mul], fun j u hu => ?_⟩
      · intro y hy
        rcases List.mem_append.1 hy with hy | hy
        · exact hR y hy
        · rw [List.mem_singleton.1 hy]; exact hx
      · rw [List.flatMap_append] at hu
        rcases Nat.lt_or_ge j (m * size) with hj | hj
        · rw [List.getElem?_append_left (by omega)] at hu
          exact hc j u hu
        · rw [List.getElem?_append_right (by omega), hlen] at hu
          have := hxc (j - m * size) u (by simpa using hu)
          rwa [show m * size + (j - m * size) = j by omega] at this
  obtain ⟨L, hL, hR, hlen, hc⟩ := build n (Nat.le_refl _)
  refine ⟨some ad, n, c, L, rfl, h1, h2, h3, h4, hL, hR, hlen, fun _ => ⟨ad, rfl, ?_, hc⟩⟩
  have hp : 0 < (L.flatMap f).length := by rw [hlen]; exact Nat.mul_pos hn hpos
  have hlt := cell_lt (hc 0 _ (List.getElem?_eq_getElem hp))
  rwa [block_of_add] at hlt
theorem RdD.array {n : Nat} {e : TypeId} (h : RdD enc P w t cs d) (ht : P.underlying t = some (.array n e)) : cs.length = P.cellsOf t ∧ ∀ i, i < n → Rd enc P w e ((cs.drop (i * P.cellsOf e)).take (P.cellsOf e)) := by
  obtain ⟨fuel, pl, hx, hb⟩ := h
  obtain ⟨ys, m, _, hxy, hl, hyl, hf⟩ := DataW.trod_array ht hx
  injection hxy with hd hpl
  subst hd
  refine ⟨hl, fun i hi => ?_⟩
  have hy : ys[i]? = some (ys[i]'(by omega)) := List.getElem?_eq_getElem (by omega)
  refine ⟨m, ys[i]'(by omega), (hf i hi).trans hy, fun k hk => hb k ?_⟩
  have hm : (ys[i]'(by omega)).1 ∈ ys.map (·.1) := List.mem_map.2 ⟨_, List.getElem_mem _, rfl⟩
  simp only [DataW.weights, ht]
  exact weightsAll_mem hm hk
end
end Go.Proofs.YtpjjnmdfgcfnmaaGreatDoor
/- A reading with its datum and how much of it there is. -/
namespace Go.Proofs.YtpjjnmdfgcfnmaaGreatDoor
open Go.ChangeShapes Go.WideShapes Go.Deep Go.RowKit

section
variable {H : Type} {enc : TypeId × Value → H} {P : Program} {w : World} {t : TypeId} {cs : List Value} {d : DataW H}
theorem bulk_one (d : DataW H) : 1 ≤ Rows.uptoBulk d := by
  cases d with
  | lit l => cases l <;> simp [Rows.uptoBulk]
  | nil => simp [Rows.uptoBulk]
  | ptr d => simp [Rows.uptoBulk]
  | slice elems spare => simp [Rows.uptoBulk]
  | agg parts => simp [Rows.uptoBulk]
  | iface t d => simp [Rows.uptoBulk]
  | map entries => simp [Rows.uptoBulk]
  | held h => simp [Rows.uptoBulk]
theorem bulkAll_map (l : List Nat) (D : Nat → DataW H) : Rows.uptoBulkAll (l.map D) = (l.map fun i => Rows.uptoBulk (D i)).sum := by
  induction l with
  | nil => rfl
  | cons a l ih => simp only [List.map_cons, Rows.uptoBulkAll, List.sum_cons, ih]
/-- a slice whose elements' cells are each told by a datum of ours; what they measure in all -/
theorem RdD.rowsU {e : TypeId} {α : Type} (h : RdD enc P w t cs d) (ht : P.underlying t = some (.slice e)) {size : Nat} (hsize : P.cellsOf e = size) (hpos : 0 < size) (f : α → List Value) (R : α → Prop) (μ : α → Nat)
    (hf : ∀ (cs' : List Value) (d' : DataW H), RdD enc P w e cs' d' → SizeOf.sizeOf d' < SizeOf.sizeOf d → ∃ x, cs' = f x ∧ R x ∧ μ x ≤ Rows.uptoBulk d') :
    ∃ (A : Option Addr) (n c : Nat) (L : List α), cs = [.slice A n c] ∧ (A = none → n = 0 ∧ c = 0) ∧ n ≤ c ∧ c ≤ maxLen ∧ c * P.bytesOf e ≤ reachBytes ∧ L.length = n ∧ (∀ x ∈ L, R x) ∧ Reads w w.heap.size size A n (L.flatMap f) ∧ (L.map μ).sum + 1 ≤ Rows.uptoBulk d := by
  obtain ⟨fuel, pl, hx, hb⟩ := h
  rcases open_slice ht hx with ⟨rfl, h0⟩ | ⟨a, len, cap, m, k, D, Pl, rfl, _, hl, hm, hmm, hxy, hi⟩
  · refine ⟨none, 0, 0, [], rfl, fun _ => ⟨rfl, rfl⟩, Nat.le_refl _, Nat.zero_le _, by simp, rfl, fun x hx => (by cases hx), by simpa using Reads.none_, ?_⟩
    injection h0 with hd hp
    subst hd
    simp [Rows.uptoBulk]
  · injection hxy with hd hpl
    subst hd
    simp only [if_true] at hmm
    subst hmm
    have hcap := hb ((len + (m - len)) * P.bytesOf e) (by simp [DataW.weights, ht])
    rw [show len + (m - len) = m by omega] at hcap
    rw [hsize] at hi
    have key : ∀ i, i < len → ∃ x, R x ∧ (f x).length = size ∧ (∀ k u, (f x)[k]? = some u → w.cell? (a.add (i * size + k)) = some u) ∧ μ x ≤ Rows.uptoBulk (D i) := by
      intro i hil
      obtain ⟨cs', hcs, htr⟩ := hi i (by omega)
      obtain ⟨_, hl', hat⟩ := World.cells?_some hcs
      have hmem : D i ∈ (List.range len).map D := List.mem_map.2 ⟨i, List.mem_range.2 hil, rfl⟩
      have hrd : RdD enc P w e cs' (D i) := ⟨k, _, htr, fun q hq => hb q (by
        simp only [DataW.weights, ht, List.mem_cons, List.mem_append]
        exact .inr (.inl (weightsAll_mem hmem hq)))⟩
      have hsz : SizeOf.sizeOf (D i) < SizeOf.sizeOf (DataW.slice ((List.range len).map D) ((List.range (m - len)).map fun j => D (len + j))) := by
        have := List.sizeOf_lt_of_mem hmem
        simp only [DataW.slice.sizeOf_spec]
        omega
      obtain ⟨x, rfl, hR, hμ⟩ := hf cs' _ hrd hsz
      refine ⟨x, hR, hl', fun q u hu => ?_, hμ⟩
      have hk' : q < size := by rw [← hl']; exact (List.getElem?_eq_some_iff.1 hu).1
      rw [← add_of_add, hat q hk', hu]
    have build : ∀ q, q ≤ len → ∃ L : List α, L.length = q ∧ (∀ x ∈ L, R x) ∧ (L.flatMap f).length = q * size ∧ (∀ j u, (L.flatMap f)[j]? = some u → w.cell? (a.add j) = some u) ∧ (L.map μ).sum ≤ ((List.range q).map fun i => Rows.uptoBulk (D i)).sum := by
      intro q
      induction q with
      | zero => exact fun _ => ⟨[], rfl, fun x hx => (by cases hx), by simp, fun j u hu => by simp at hu, by simp⟩
      | succ q ih =>
        intro hq
        obtain ⟨L, hL, hR, hlen, hc, hs⟩ := ih (by omega)
        obtain ⟨x, hx, hl', hxc, hμ⟩ := key q (by omega)
        refine ⟨L ++ [x], by simp [hL], ?_, by simp [List.flatMap_append, hlen, hl', Nat.succ_mul], fun j u hu => ?_, ?_⟩
        · intro y hy
          rcases List.mem_append.1 hy with hy | hy
          · exact hR y hy
          · rw [List.mem_singleton.1 hy]; exact hx
        · rw [List.flatMap_append] at hu
          rcases Nat.lt_or_ge j (q * size) with hj | hj
          · rw [List.getElem?_append_left (by omega)] at hu
            exact hc j u hu
          · rw [List.getElem?_append_right (by omega), hlen] at hu
            have := hxc (j - q * size) u (by simpa using hu)
            rwa [show q * size + (j - q * size) = j by omega] at this
        · rw [List.range_succ, List.map_append, List.map_append, List.sum_append, List.sum_append]
          simp
          omega
    obtain ⟨L, hL, hR, hlen, hc, hs⟩ := build len (Nat.le_refl _)
    refine ⟨some a, len, m, L, rfl, fun h => (by cases h), hl, hm, hcap, hL, hR, ⟨hlen, fun hn => ⟨a, rfl, ?_, hc⟩⟩, ?_⟩
    · have hp : 0 < (L.flatMap f).length := by rw [hlen]; exact Nat.mul_pos hn hpos
      have hlt := cell_lt (hc 0 _ (List.getElem?_eq_getElem hp))
      rwa [block_of_add] at hlt
    · simp only [Rows.uptoBulk]
      rw [bulkAll_map]
      omega
/-- bytes, with their bulk -/
theorem RdD.bytesU {e : TypeId} (h : RdD enc P w t cs d) (ht : P.underlying t = some (.slice e)) (he : P.underlying e = some (.int .u8)) (hsize : P.cellsOf e = 1) (hby : P.bytesOf e = 1) :
    ∃ (A : Option Addr) (n c : Nat) (l : List UInt8), cs = [.slice A n c] ∧ (A = none → n = 0 ∧ c = 0) ∧ n ≤ c ∧ c ≤ reachBytes ∧ l.length = n ∧ Reads w w.heap.size 1 A n (bcells l) ∧ n + 1 ≤ Rows.uptoBulk d := by
  obtain ⟨A, n, c, l, h1, h2, h3, h4, h5, h6, _, h8, h9⟩ := h.rowsU ht hsize (by decide) (fun b : UInt8 => [.int .u8 (b.toNat : Int)]) (fun _ => True) (fun _ => 1) (fun cs' d' hr _ => by
    obtain ⟨z, rfl, hz⟩ := hr.rd.int he
    have hb := bounds_u8 hz
    refine ⟨UInt8.ofNat z.toNat, ?_, trivial, bulk_one d'⟩
    have : (UInt8.ofNat z.toNat).toNat = z.toNat := by
      rw [UInt8.toNat_ofNat']
      omega
    rw [this]
    have h : (z.toNat : Int) = z := Int.toNat_of_nonneg hb.1
    rw [h])
  rw [hby, Nat.mul_one] at h5
  have h9' : (l.map fun _ => 1).sum = l.length := by
    clear h1 h2 h3 h4 h5 h6 h8 h9
    induction l with
    | nil => rfl
    | cons a l ih => simp [ih]; omega
  rw [h9'] at h9
  refine ⟨A, n, c, l, h1, h2, h3, h5, h6, ?_, by omega⟩
  rwa [bcells_flat] at h8
end
end Go.Proofs.YtpjjnmdfgcfnmaaGreatDoor
/- A list of permissions as cells (out of st/XSt6, for seats without stat). -/
namespace Go.Proofs.YtpjjnmdfgcfnmaaGreatDoor
open Go.RowKit

abbrev AclT := Int × ByteArray × ByteArray
/-- a permission's cells; those of a list -/
def aclCells (L : List (Int × ByteArray × ByteArray)) : List Value := L.flatMap fun a => [.int .i32 a.1, .string a.2.1, .string a.2.2]
theorem aclCells_cons (a : Int × ByteArray × ByteArray) (L : List (Int × ByteArray × ByteArray)) : aclCells (a :: L) = .int .i32 a.1 :: .string a.2.1 :: .string a.2.2 :: aclCells L := by simp [aclCells]
theorem aclCells_length (L : List (Int × ByteArray × ByteArray)) : (aclCells L).length = L.length * 3 := by
  induction L with
  | nil => rfl
  | cons a L ih => rw [aclCells_cons]; simp only [List.length_cons, ih]; omega
theorem aclCells_get (L : List (Int × ByteArray × ByteArray)) (k : Nat) (h : k < L.length) :
    (aclCells L)[k * 3]? = some (.int .i32 L[k].1) ∧ (aclCells L)[k * 3 + 1]? = some (.string L[k].2.1) ∧ (aclCells L)[k * 3 + 2]? = some (.string L[k].2.2) := by
  induction L generalizing k with
  | nil => simp at h
  | cons a L ih =>
    rw [aclCells_cons]
    cases k with
    | zero => simp
    | succ k =>
      have h' : k < L.length := by simpa using h
      have := ih k h'
      have e1 : (k + 1) * 3 = k * 3 + 1 + 1 + 1 := by omega
      rw [e1]
      simpa using this
end Go.Proofs.YtpjjnmdfgcfnmaaGreatDoor
/- An operation: what it holds, where that lies in memory, as it was read. (printed by gen_p1.py) -/
namespace Go.Proofs.YtpjjnmdfgcfnmaaGreatDoor
open Go.ChangeShapes Go.WideShapes Go.ChangeAt Go.RowKit

/-- where a list lies -/
structure Sl where
  (A : Option Addr)
  (n c : Nat)
def Sl.v (s : Sl) : Value := .slice s.A s.n s.c
/-- an operation's own fields: what they hold -/
structure OpF where
  (t : Int) (p : ByteArray) (l : List UInt8) (L : List AclT) (fl ve : Int) (wa : Bool) (ct by_ tl zx : Int)
  (K0 K1 K2 K3 K4 : List ByteArray) (to : Int) (I : List (ByteArray × ByteArray))
/-- an operation with all that stands in it: what it holds -/
inductive OpC where
  | mk (f : OpF) (S : List OpC)
def OpC.f : OpC → OpF
  | .mk f _ => f
def OpC.S : OpC → List OpC
  | .mk _ S => S
def strCells (L : List ByteArray) : List Value := L.flatMap fun s => [.string s]
def idCells (I : List (ByteArray × ByteArray)) : List Value := I.flatMap fun x => [.string x.1, .string x.2]
/-- the cells of an operation whose lists lie there -/
def OpF.row (f : OpF) (d a k0 k1 k2 k3 k4 i s : Sl) : List Value := [.int .i32 f.t, .string f.p, d.v, a.v, .int .i32 f.fl, .int .i32 f.ve, .bool f.wa, .int .i64 f.ct, .int .i64 f.by_, .int .i64 f.tl, .int .i64 f.zx, k0.v, k1.v, k2.v, k3.v, k4.v, .int .i32 f.to, i.v, s.v]
theorem OpF.row_len (f : OpF) (d a k0 k1 k2 k3 k4 i s : Sl) : (f.row d a k0 k1 k2 k3 k4 i s).length = 19 := rfl
/-- a list of a type's rows in memory; of the call's own, from a block on -/
structure SlAt (w : World) (lo : Option Nat) (e : TypeId) (size bytes : Nat) (s : Sl) (len : Nat) (xs : List Value) : Prop where
  nil : s.A = none → s.n = 0 ∧ s.c = 0
  le : s.n ≤ s.c
  cap : s.c ≤ maxLen
  reach : s.n * bytes ≤ reachBytes
  len : len = s.n
  reads : Reads w w.heap.size size s.A s.n xs
  own : ∀ b, lo = some b → w.ownsRow b e size s.v s.n xs
theorem own_below {w w' : World} {b : Nat} {e : TypeId} {size n : Nat} {v : Value} {xs : List Value} (h : w.ownsRow b e size v n xs) (hb : Below w.heap.size w w') : w'.ownsRow b e size v n xs := by
  obtain ⟨h1, h2⟩ := h
  refine ⟨h1, ?_⟩
  rcases h2 with h2 | ⟨g, cap, cur, e1, e2, e3, e4⟩
  · exact .inl h2
  · refine .inr ⟨g, cap, cur, e1, e2, ?_, e4⟩
    have hlt : g < w.heap.size := by
      rcases Nat.lt_or_ge g w.heap.size with hlt | hge
      · exact hlt
      · rw [Array.getElem?_eq_none hge] at e3; cases e3
    exact (hb.block g hlt).trans e3
theorem SlAt.later {w w' : World} {lo : Option Nat} {e : TypeId} {size bytes len : Nat} {s : Sl} {xs : List Value} (h : SlAt w lo e size bytes s len xs) (hb : Below w.heap.size w w') : SlAt w' lo e size bytes s len xs :=
  ⟨h.nil, h.le, h.cap, h.reach, h.len, (h.reads.below hb).more hb.size, fun b hl => own_below (h.own b hl) hb⟩
theorem SlAt.any {w : World} {lo : Option Nat} {e : TypeId} {size bytes len : Nat} {s : Sl} {xs : List Value} (h : SlAt w lo e size bytes s len xs) : SlAt w none e size bytes s len xs :=
  ⟨h.nil, h.le, h.cap, h.reach, h.len, h.reads, fun _ hl => by cases hl⟩
/-- what was made by append is such a list -/
theorem SlAt.of_own {w : World} {b : Nat} {e : TypeId} {size bytes n c : Nat} {A : Option Addr} {xs : List Value} (h : w.ownsRow b e size (.slice A n c) n xs) (hr : n * bytes ≤ reachBytes) : SlAt w (some b) e size bytes ⟨A, n, c⟩ n xs := by
  refine ⟨fun e => own_nil h e, ?_, ?_, hr, rfl, Reads.of_own h, fun b' hl => by injection hl with hl; subst hl; exact h⟩
  · rcases h.2 with ⟨h1, h2⟩ | ⟨g, cap, cur, e1, e2, e3, e4, e5, e6⟩
    · injection h1 with _ _ h3
      subst h2 h3
      exact Nat.le_refl _
    · injection e1 with _ _ e1
      subst e1
      exact e4
  · rcases h.2 with ⟨h1, h2⟩ | ⟨g, cap, cur, e1, e2, e3, e4, e5, e6⟩
    · injection h1 with _ _ h3
      subst h3
      exact Nat.zero_le _
    · injection e1 with _ _ e1
      subst e1
      exact e5
/-- its numbers are of their kinds, its texts have lengths -/
structure OpF.Ok (f : OpF) : Prop where
  t : (Lit.int .i32 f.t).wf = true
  fl : (Lit.int .i32 f.fl).wf = true
  ve : (Lit.int .i32 f.ve).wf = true
  ct : (Lit.int .i64 f.ct).wf = true
  by_ : (Lit.int .i64 f.by_).wf = true
  tl : (Lit.int .i64 f.tl).wf = true
  zx : (Lit.int .i64 f.zx).wf = true
  to : (Lit.int .i32 f.to).wf = true
  p : f.p.size ≤ reachBytes
  acl : ∀ x ∈ f.L, (Lit.int .i32 x.1).wf = true ∧ x.2.1.size ≤ reachBytes ∧ x.2.2.size ≤ reachBytes
  ids : ∀ x ∈ f.I, x.1.size ≤ reachBytes ∧ x.2.size ≤ reachBytes
  k0 : ∀ x ∈ f.K0, x.size ≤ reachBytes
  k1 : ∀ x ∈ f.K1, x.size ≤ reachBytes
  k2 : ∀ x ∈ f.K2, x.size ≤ reachBytes
  k3 : ∀ x ∈ f.K3, x.size ≤ reachBytes
  k4 : ∀ x ∈ f.K4, x.size ≤ reachBytes
/-- an operation of that content lies in these cells -/
inductive At (w : World) (lo : Option Nat) : OpC → List Value → Prop
  | mk (f : OpF) (d a k0 k1 k2 k3 k4 i s : Sl) (Q : List (OpC × List Value)) (ok : f.Ok)
      (hd : SlAt w lo 5 1 1 d f.l.length (bcells f.l)) (ha : SlAt w lo 104 3 40 a f.L.length (aclCells f.L))
      (hk0 : SlAt w lo 9 1 16 k0 f.K0.length (strCells f.K0)) (hk1 : SlAt w lo 9 1 16 k1 f.K1.length (strCells f.K1)) (hk2 : SlAt w lo 9 1 16 k2 f.K2.length (strCells f.K2))
      (hk3 : SlAt w lo 9 1 16 k3 f.K3.length (strCells f.K3)) (hk4 : SlAt w lo 9 1 16 k4 f.K4.length (strCells f.K4)) (hi : SlAt w lo 102 2 32 i f.I.length (idCells f.I))
      (hs : SlAt w lo 29 19 296 s Q.length (Q.flatMap Prod.snd)) (hQ : ∀ q ∈ Q, At w lo q.1 q.2) : At w lo (.mk f (Q.map Prod.fst)) (f.row d a k0 k1 k2 k3 k4 i s)
theorem At.later {w w' : World} {lo : Option Nat} {x : OpC} {cs : List Value} (h : At w lo x cs) (hb : Below w.heap.size w w') : At w' lo x cs := by
  induction h with
  | mk f d a k0 k1 k2 k3 k4 i s Q ok hd ha hk0 hk1 hk2 hk3 hk4 hi hs _ ih => exact .mk f d a k0 k1 k2 k3 k4 i s Q ok (hd.later hb) (ha.later hb) (hk0.later hb) (hk1.later hb) (hk2.later hb) (hk3.later hb) (hk4.later hb) (hi.later hb) (hs.later hb) fun q hq => ih q hq
theorem At.any {w : World} {lo : Option Nat} {x : OpC} {cs : List Value} (h : At w lo x cs) : At w none x cs := by
  induction h with
  | mk f d a k0 k1 k2 k3 k4 i s Q ok hd ha hk0 hk1 hk2 hk3 hk4 hi hs _ ih => exact .mk f d a k0 k1 k2 k3 k4 i s Q ok hd.any ha.any hk0.any hk1.any hk2.any hk3.any hk4.any hi.any hs.any fun q hq => ih q hq
theorem At.len {w : World} {lo : Option Nat} {x : OpC} {cs : List Value} (h : At w lo x cs) : cs.length = 19 := by
  cases h
  rfl
/-- how much there is of texts, of lists -/
def bulkS (L : List ByteArray) : Nat := (L.map fun s => s.size + 1).sum
def bulkI (L : List (ByteArray × ByteArray)) : Nat := (L.map fun x => x.1.size + x.2.size + 3).sum
def bulkA (L : List AclT) : Nat := (L.map fun x => x.2.1.size + x.2.2.size + 5).sum
def OpF.bulk (f : OpF) : Nat := 20 + f.p.size + f.l.length + bulkA f.L + bulkS f.K0 + bulkS f.K1 + bulkS f.K2 + bulkS f.K3 + bulkS f.K4 + bulkI f.I
mutual
def OpC.bulk : OpC → Nat
  | .mk f S => f.bulk + bulkL S
def bulkL : List OpC → Nat
  | [] => 0
  | x :: r => x.bulk + bulkL r
end
section
variable {H : Type} {enc : TypeId × Value → H} {w : World}

end
end Go.Proofs.YtpjjnmdfgcfnmaaGreatDoor
