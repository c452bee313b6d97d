/- A reading with its reach and its bulk: what an argument's cells are, kind by kind, and how much of it there is. -/
import Derived.Test.YtbegingiedbldaaDoorRead
namespace Go.Proofs.YtbegingiedbldaaDoor
open Go.ChangeShapes Go.WideShapes Go.Deep Go.RowKit

section
variable {H : Type} {enc : TypeId × Value → H} {P : Program} {w : World}

/-- cells that read as data of a type, no piece of them greater than what is reached, of bulk m at most -/
def RdU (enc : TypeId × Value → H) (P : Program) (w : World) (t : TypeId) (m : Nat) (cs : List Value) : Prop :=
  ∃ fuel x, DataW.trod enc P w 0 (fun _ => true) true fuel t cs = some x ∧ (∀ n ∈ x.1.weights P t, n ≤ reachBytes) ∧ Rows.uptoBulk x.1 ≤ m

theorem bulk_part {d : DataW H} {l : List (DataW H)} (h : d ∈ l) : Rows.uptoBulk d ≤ Rows.uptoBulkAll l := by
  induction l with
  | nil => cases h
  | cons x r ih =>
    simp only [Rows.uptoBulkAll]
    rcases List.mem_cons.1 h with e | e
    · subst e; omega
    · have := ih e; omega
theorem bulk_map (l : List Nat) (D : Nat → DataW H) : Rows.uptoBulkAll (l.map D) = (l.map fun i => Rows.uptoBulk (D i)).sum := by
  induction l with
  | nil => rfl
  | cons a l ih => simp only [List.map_cons, Rows.uptoBulkAll, List.sum_cons, ih]

theorem rdu_of {v : Value} {d : DataW H} {p : List MemPlace} {t : TypeId} {ts : List TypeId} {ds : List (DataW H)} {m : Nat} (j : Nat) (h : DataW.Trod enc P w 0 (fun _ => true) true t v d p)
    (hsz : (DataW.weightsEach P ts ds).all (· ≤ reachBytes) = true) (ht : ts[j]? = some t) (hd : ds[j]? = some d) (hk : Rows.uptoBulkAll ds ≤ m) : RdU enc P w t m v.cells.toList := by
  obtain ⟨fuel, hf⟩ := h
  exact ⟨fuel, _, hf, fun n hn => by simpa using List.all_eq_true.1 hsz _ (DataW.weights_mem_each ht hd n hn), Nat.le_trans (bulk_part (List.mem_of_getElem? hd)) hk⟩

variable {t : TypeId} {cs : List Value} {m : Nat}
theorem RdU.rd (h : RdU enc P w t m cs) : Rd enc P w t cs := by
  obtain ⟨fuel, x, h1, h2, _⟩ := h
  exact ⟨fuel, x, h1, h2⟩

theorem RdU.string (h : RdU enc P w t m cs) (ht : P.underlying t = some .string) : ∃ s : ByteArray, cs = [.string s] ∧ s.size + 1 ≤ m := by
  obtain ⟨fuel, x, hx, _, hb⟩ := h
  obtain ⟨s, h1, rfl, _⟩ := DataW.trod_string ht hx
  refine ⟨s, h1, ?_⟩
  simp only [Rows.uptoBulk] at hb
  have : s.size = s.data.toList.length := by cases s; simp [ByteArray.size]
  omega

theorem RdU.struct {fs : Array Field} (h : RdU enc P w t m cs) (ht : P.underlying t = some (.struct fs)) : cs.length = P.cellsOf t ∧ ∀ (j : Nat) (f : Field), fs[j]? = some f → RdU enc P w f.type m ((cs.drop f.offset).take (P.cellsOf f.type)) := by
  obtain ⟨fuel, x, hx, hb, hm⟩ := h
  obtain ⟨ys, n, _, rfl, hl, hyl, hf⟩ := DataW.trod_struct ht hx
  refine ⟨hl, fun j f hj => ?_⟩
  have hjl : j < fs.size := (Array.getElem?_eq_some_iff.1 hj).1
  have hy : ys[j]? = some (ys[j]'(by omega)) := List.getElem?_eq_getElem (by omega)
  refine ⟨n, ys[j]'(by omega), (hf j f hj).trans hy, fun k hk => hb k ?_, ?_⟩
  · simp only [DataW.weights, ht]
    refine DataW.weights_mem_each (j := j) (t := f.type) (d := (ys[j]'(by omega)).1) ?_ ?_ k hk
    · simp [hj]
    · simp [hy]
  · simp only [Rows.uptoBulk] at hm
    have := bulk_part (d := (ys[j]'(by omega)).1) (l := ys.map (·.1)) (List.mem_map.2 ⟨_, List.getElem_mem _, rfl⟩)
    omega

/-- a slice whose elements' cells are each told by a datum of ours; what they measure in all -/
theorem RdU.rows {e : TypeId} {α : Type} (h : RdU enc P w t m cs) (ht : P.underlying t = some (.slice e)) {size : Nat} (hsize : P.cellsOf e = size) (hpos : 0 < size) (f : α → List Value) (R : α → Prop) (μ : α → Nat) (hf : ∀ cs' m', RdU enc P w e m' cs' → ∃ x, cs' = f x ∧ R x ∧ μ x ≤ m') :
    ∃ (A : Option Addr) (n c : Nat) (L : List α), cs = [.slice A n c] ∧ (A = none → n = 0 ∧ c = 0) ∧ n ≤ c ∧ c ≤ maxLen ∧ c * P.bytesOf e ≤ reachBytes ∧ L.length = n ∧ (∀ x ∈ L, R x) ∧ Reads w w.heap.size size A n (L.flatMap f) ∧ (L.map μ).sum + 1 ≤ m := by
  obtain ⟨fuel, x, hx, hb, hbulk⟩ := h
  rcases open_slice ht hx with ⟨rfl, rfl⟩ | ⟨a, len, cap, mm, k, D, Pl, rfl, _, hl, hm, hmm, rfl, hi⟩
  · refine ⟨none, 0, 0, [], rfl, fun _ => ⟨rfl, rfl⟩, Nat.le_refl _, Nat.zero_le _, by simp, rfl, fun x hx => (by cases hx), by simpa using Reads.none_, ?_⟩
    simpa [Rows.uptoBulk] using hbulk
  · simp only [if_true] at hmm
    subst hmm
    have hcap := hb ((len + (mm - len)) * P.bytesOf e) (by simp [DataW.weights, ht])
    rw [show len + (mm - len) = mm by omega] at hcap
    rw [hsize] at hi
    have hbulk' : ((List.range len).map fun i => Rows.uptoBulk (D i)).sum + 1 ≤ m := by
      simp only [Rows.uptoBulk] at hbulk
      rw [bulk_map] at hbulk
      omega
    have key : ∀ i, i < len → ∃ x, R x ∧ (f x).length = size ∧ (∀ k u, (f x)[k]? = some u → w.cell? (a.add (i * size + k)) = some u) ∧ μ x ≤ Rows.uptoBulk (D i) := by
      intro i hil
      obtain ⟨cs', hcs, htr⟩ := hi i (by omega)
      obtain ⟨_, hl', hat⟩ := World.cells?_some hcs
      have hrd : RdU enc P w e (Rows.uptoBulk (D i)) cs' := ⟨k, _, htr, fun q hq => hb q (by
        simp only [DataW.weights, ht, List.mem_cons, List.mem_append]
        exact .inr (.inl (weightsAll_mem (List.mem_map.2 ⟨i, List.mem_range.2 hil, rfl⟩) hq))), Nat.le_refl _⟩
      obtain ⟨x, rfl, hR, hμ⟩ := hf cs' _ hrd
      refine ⟨x, hR, hl', fun q u hu => ?_, hμ⟩
      have hk' : q < size := by rw [← hl']; exact (List.getElem?_eq_some_iff.1 hu).1
      rw [← add_of_add, hat q hk', hu]
    have build : ∀ q, q ≤ len → ∃ L : List α, L.length = q ∧ (∀ x ∈ L, R x) ∧ (L.flatMap f).length = q * size ∧ (∀ j u, (L.flatMap f)[j]? = some u → w.cell? (a.add j) = some u) ∧ (L.map μ).sum ≤ ((List.range q).map fun i => Rows.uptoBulk (D i)).sum := by
      intro q
      induction q with
      | zero => exact fun _ => ⟨[], rfl, fun x hx => (by cases hx), by simp, fun j u hu => by simp at hu, by simp⟩
      | succ q ih =>
        intro hq
        obtain ⟨L, hL, hR, hlen, hc, hs⟩ := ih (by omega)
        obtain ⟨x, hx, hl', hxc, hμ⟩ := key q (by omega)
        refine ⟨L ++ [x], by simp [hL], ?_, by simp [List.flatMap_append, hlen, hl', Nat.succ_mul], fun j u hu => ?_, ?_⟩
        · intro y hy
          rcases List.mem_append.1 hy with hy | hy
          · exact hR y hy
          · rw [List.mem_singleton.1 hy]; exact hx
        · rw [List.flatMap_append] at hu
          rcases Nat.lt_or_ge j (q * size) with hj | hj
          · rw [List.getElem?_append_left (by omega)] at hu
            exact hc j u hu
          · rw [List.getElem?_append_right (by omega), hlen] at hu
            have := hxc (j - q * size) u (by simpa using hu)
            rwa [show q * size + (j - q * size) = j by omega] at this
        · rw [List.range_succ, List.map_append, List.map_append, List.sum_append, List.sum_append]
          simp
          omega
    obtain ⟨L, hL, hR, hlen, hc, hs⟩ := build len (Nat.le_refl _)
    refine ⟨some a, len, mm, L, rfl, fun h => (by cases h), hl, hm, hcap, hL, hR, ⟨hlen, fun hn => ⟨a, rfl, ?_, hc⟩⟩, by omega⟩
    have hp : 0 < (L.flatMap f).length := by rw [hlen]; exact Nat.mul_pos hn hpos
    have hlt := cell_lt (hc 0 _ (List.getElem?_eq_getElem hp))
    rwa [block_of_add] at hlt

theorem sum_ones {α : Type} (L : List α) : (L.map fun _ => 1).sum = L.length := by
  induction L with
  | nil => rfl
  | cons a L ih => simp [ih]; omega

/-- bytes -/
theorem RdU.bytes {e : TypeId} (h : RdU enc P w t m cs) (ht : P.underlying t = some (.slice e)) (he : P.underlying e = some (.int .u8)) (hsize : P.cellsOf e = 1) (hby : P.bytesOf e = 1) :
    ∃ (A : Option Addr) (n c : Nat) (l : List UInt8), cs = [.slice A n c] ∧ (A = none → n = 0 ∧ c = 0) ∧ n ≤ c ∧ c ≤ reachBytes ∧ l.length = n ∧ Reads w w.heap.size 1 A n (bcells l) ∧ n + 1 ≤ m := by
  obtain ⟨A, n, c, l, h1, h2, h3, h4, h5, h6, _, h8, h9⟩ := h.rows ht hsize (by decide) (fun b : UInt8 => [.int .u8 (b.toNat : Int)]) (fun _ => True) (fun _ => 1) (fun cs' m' hr => by
    obtain ⟨z, rfl, hz⟩ := hr.rd.int he
    have hb := bounds_u8 hz
    refine ⟨UInt8.ofNat z.toNat, ?_, trivial, ?_⟩
    · have : (UInt8.ofNat z.toNat).toNat = z.toNat := by
        rw [UInt8.toNat_ofNat']
        omega
      rw [this]
      have h : (z.toNat : Int) = z := Int.toNat_of_nonneg hb.1
      rw [h]
    · obtain ⟨_, x, _, _, hm⟩ := hr
      have h1 : 1 ≤ Rows.uptoBulk x.1 := by
        cases x.1 with
        | lit l => cases l <;> simp [Rows.uptoBulk]
        | nil => simp [Rows.uptoBulk]
        | ptr d => simp [Rows.uptoBulk]
        | slice elems spare => simp [Rows.uptoBulk]
        | agg parts => simp [Rows.uptoBulk]
        | iface t d => simp [Rows.uptoBulk]
        | map entries => simp [Rows.uptoBulk]
        | held h => simp [Rows.uptoBulk]
      omega)
  rw [hby, Nat.mul_one] at h5
  rw [sum_ones] at h9
  refine ⟨A, n, c, l, h1, h2, h3, h5, h6, ?_, by omega⟩
  rwa [bcells_flat] at h8
theorem RdU.one (h : RdU enc P w t m cs) : 1 ≤ m := by
  obtain ⟨_, x, _, _, hm⟩ := h
  have h1 : 1 ≤ Rows.uptoBulk x.1 := by
    cases x.1 with
    | lit l => cases l <;> simp [Rows.uptoBulk]
    | nil => simp [Rows.uptoBulk]
    | ptr d => simp [Rows.uptoBulk]
    | slice elems spare => simp [Rows.uptoBulk]
    | agg parts => simp [Rows.uptoBulk]
    | iface t d => simp [Rows.uptoBulk]
    | map entries => simp [Rows.uptoBulk]
    | held h => simp [Rows.uptoBulk]
  omega
end
end Go.Proofs.YtbegingiedbldaaDoor
