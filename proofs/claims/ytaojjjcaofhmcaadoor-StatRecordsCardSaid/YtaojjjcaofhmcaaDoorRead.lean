/- A reading with its reach: what an argument's cells are, kind by kind. -/
import Derived.Test.YtaojjjcaofhmcaaDoorBytes
import Derived.Test.YtaojjjcaofhmcaaDoorOpen
import Derived.SizedLaws
import Derived.ChangeArms
namespace Go.Proofs.YtaojjjcaofhmcaaDoor
open Go.ChangeShapes Go.WideShapes Go.Deep Go.RowKit

section
variable {H : Type} {enc : TypeId × Value → H} {P : Program} {w : World}

/-- cells that read as data of a type, no piece of them greater than what is reached -/
def Rd (enc : TypeId × Value → H) (P : Program) (w : World) (t : TypeId) (cs : List Value) : Prop :=
  ∃ fuel x, DataW.trod enc P w 0 (fun _ => true) true fuel t cs = some x ∧ ∀ n ∈ x.1.weights P t, n ≤ reachBytes

theorem rd_of {v : Value} {d : DataW H} {p : List MemPlace} {t : TypeId} {ts : List TypeId} {ds : List (DataW H)} (j : Nat) (h : DataW.Trod enc P w 0 (fun _ => true) true t v d p)
    (hsz : (DataW.weightsEach P ts ds).all (· ≤ reachBytes) = true) (ht : ts[j]? = some t) (hd : ds[j]? = some d) : Rd enc P w t v.cells.toList := by
  obtain ⟨fuel, hf⟩ := h
  exact ⟨fuel, _, hf, fun n hn => by simpa using List.all_eq_true.1 hsz _ (DataW.weights_mem_each ht hd n hn)⟩

variable {t : TypeId} {cs : List Value}

theorem Rd.int {k : IntKind} (h : Rd enc P w t cs) (ht : P.underlying t = some (.int k)) : ∃ z, cs = [.int k z] ∧ (Lit.int k z).wf = true := by
  obtain ⟨fuel, x, hx, _⟩ := h
  obtain ⟨z, h1, _, h2⟩ := DataW.trod_int ht hx
  exact ⟨z, h1, h2⟩

theorem Rd.bool (h : Rd enc P w t cs) (ht : P.underlying t = some .bool) : ∃ b, cs = [.bool b] := by
  obtain ⟨fuel, x, hx, _⟩ := h
  obtain ⟨z, h1, _⟩ := DataW.trod_bool ht hx
  exact ⟨z, h1⟩

theorem Rd.string (h : Rd enc P w t cs) (ht : P.underlying t = some .string) : ∃ s : ByteArray, cs = [.string s] ∧ s.size ≤ reachBytes := by
  obtain ⟨fuel, x, hx, hb⟩ := h
  obtain ⟨s, h1, rfl, _⟩ := DataW.trod_string ht hx
  exact ⟨s, h1, by
    have := hb s.data.toList.length (by simp [DataW.weights])
    simpa using this⟩

theorem Rd.struct {fs : Array Field} (h : Rd enc P w t cs) (ht : P.underlying t = some (.struct fs)) : cs.length = P.cellsOf t ∧ ∀ (j : Nat) (f : Field), fs[j]? = some f → Rd enc P w f.type ((cs.drop f.offset).take (P.cellsOf f.type)) := by
  obtain ⟨fuel, x, hx, hb⟩ := h
  obtain ⟨ys, n, _, rfl, hl, hyl, hf⟩ := DataW.trod_struct ht hx
  refine ⟨hl, fun j f hj => ?_⟩
  have hjl : j < fs.size := (Array.getElem?_eq_some_iff.1 hj).1
  have hy : ys[j]? = some (ys[j]'(by omega)) := List.getElem?_eq_getElem (by omega)
  refine ⟨n, ys[j]'(by omega), (hf j f hj).trans hy, fun m hm => hb m ?_⟩
  simp only [DataW.weights, ht]
  refine DataW.weights_mem_each (j := j) (t := f.type) (d := (ys[j]'(by omega)).1) ?_ ?_ m hm
  · simp [hj]
  · simp [hy]

theorem weightsAll_mem {e : TypeId} {l : List (DataW H)} {d : DataW H} (hd : d ∈ l) {n : Nat} (hn : n ∈ d.weights P e) : n ∈ DataW.weightsAll P e l := by
  induction l with
  | nil => cases hd
  | cons a l ih =>
    simp only [DataW.weightsAll, List.mem_append]
    rcases List.mem_cons.1 hd with rfl | hd
    · exact .inl hn
    · exact .inr (ih hd)

theorem Rd.slice {e : TypeId} (h : Rd enc P w t cs) (ht : P.underlying t = some (.slice e)) : ∃ (A : Option Addr) (n c : Nat), cs = [.slice A n c] ∧ (A = none → n = 0 ∧ c = 0) ∧ n ≤ c ∧ c ≤ maxLen ∧ c * P.bytesOf e ≤ reachBytes ∧
    (0 < n → ∃ ad, A = some ad) ∧ ∀ i ad, i < n → A = some ad → ∃ cs', w.cells? 0 (ad.add (i * P.cellsOf e)) (P.cellsOf e) = some cs' ∧ Rd enc P w e cs' := by
  obtain ⟨fuel, x, hx, hb⟩ := h
  rcases open_slice ht hx with ⟨rfl, rfl⟩ | ⟨a, len, cap, m, n, D, Pl, rfl, _, hl, hm, hmm, rfl, hi⟩
  · exact ⟨none, 0, 0, rfl, fun _ => ⟨rfl, rfl⟩, Nat.le_refl _, Nat.zero_le _, by simp, fun h => absurd h (by omega), fun i ad hi => absurd hi (by omega)⟩
  · refine ⟨some a, len, cap, rfl, fun h => (by cases h), hl, hm, ?_, fun _ => ⟨a, rfl⟩, fun i ad hlt he => ?_⟩
    · simp only [if_true] at hmm
      subst hmm
      have := hb ((len + (m - len)) * P.bytesOf e) (by simp [DataW.weights, ht])
      rwa [show len + (m - len) = m by omega] at this
    · simp only [if_true] at hmm
      injection he with he
      subst he
      obtain ⟨cs', h1, h2⟩ := hi i (by omega)
      refine ⟨cs', h1, n, _, h2, fun k hk => hb k ?_⟩
      simp only [DataW.weights, ht, List.mem_cons, List.mem_append]
      exact .inr (.inl (weightsAll_mem (List.mem_map.2 ⟨i, List.mem_range.2 hlt, rfl⟩) hk))

/-- a slice whose elements' cells are each told by a datum of ours -/
theorem Rd.rows {e : TypeId} {α : Type} (h : Rd enc P w t cs) (ht : P.underlying t = some (.slice e)) {size : Nat} (hsize : P.cellsOf e = size) (hpos : 0 < size) (f : α → List Value) (R : α → Prop) (hf : ∀ cs', Rd enc P w e cs' → ∃ x, cs' = f x ∧ R x) :
    ∃ (A : Option Addr) (n c : Nat) (L : List α), cs = [.slice A n c] ∧ (A = none → n = 0 ∧ c = 0) ∧ n ≤ c ∧ c ≤ maxLen ∧ c * P.bytesOf e ≤ reachBytes ∧ L.length = n ∧ (∀ x ∈ L, R x) ∧ Reads w w.heap.size size A n (L.flatMap f) := by
  obtain ⟨A, n, c, rfl, h1, h2, h3, h4, h5, h6⟩ := h.slice ht
  rw [hsize] at h6
  rcases Nat.eq_zero_or_pos n with rfl | hn
  · exact ⟨A, 0, c, [], rfl, h1, h2, h3, h4, rfl, fun x hx => (by cases hx), by simpa using Reads.none_⟩
  obtain ⟨ad, rfl⟩ := h5 hn
  have key : ∀ i, i < n → ∃ x, R x ∧ (f x).length = size ∧ ∀ k u, (f x)[k]? = some u → w.cell? (ad.add (i * size + k)) = some u := by
    intro i hi
    obtain ⟨cs', hcs, hrd⟩ := h6 i ad hi rfl
    obtain ⟨_, hl, hat⟩ := World.cells?_some hcs
    obtain ⟨x, rfl, hR⟩ := hf cs' hrd
    refine ⟨x, hR, hl, fun k u hu => ?_⟩
    have hk : k < size := by rw [← hl]; exact (List.getElem?_eq_some_iff.1 hu).1
    rw [← add_of_add, hat k hk, hu]
  have build : ∀ m, m ≤ n → ∃ L : List α, L.length = m ∧ (∀ x ∈ L, R x) ∧ (L.flatMap f).length = m * size ∧ ∀ j u, (L.flatMap f)[j]? = some u → w.cell? (ad.add j) = some u := by
    intro m
    induction m with
    | zero => exact fun _ => ⟨[], rfl, fun x hx => (by cases hx), by simp, fun j u hu => by simp at hu⟩
    | succ m ih =>
      intro hm
      obtain ⟨L, hL, hR, hlen, hc⟩ := ih (by omega)
      obtain ⟨x, hx, hl, hxc⟩ := key m (by omega)
      refine ⟨L ++ [x], by simp [hL], ?_, by simp [List.flatMap_append, hlen, hl, Nat.succ_mul], fun j u hu => ?_⟩
      · intro y hy
        rcases List.mem_append.1 hy with hy | hy
        · exact hR y hy
        · rw [List.mem_singleton.1 hy]; exact hx
      · rw [List.flatMap_append] at hu
        rcases Nat.lt_or_ge j (m * size) with hj | hj
        · rw [List.getElem?_append_left (by omega)] at hu
          exact hc j u hu
        · rw [List.getElem?_append_right (by omega), hlen] at hu
          have := hxc (j - m * size) u (by simpa using hu)
          rwa [show m * size + (j - m * size) = j by omega] at this
  obtain ⟨L, hL, hR, hlen, hc⟩ := build n (Nat.le_refl _)
  refine ⟨some ad, n, c, L, rfl, h1, h2, h3, h4, hL, hR, hlen, fun _ => ⟨ad, rfl, ?_, hc⟩⟩
  have hp : 0 < (L.flatMap f).length := by rw [hlen]; exact Nat.mul_pos hn hpos
  have hlt := cell_lt (hc 0 _ (List.getElem?_eq_getElem hp))
  rwa [block_of_add] at hlt

theorem bcells_flat (l : List UInt8) : l.flatMap (fun b : UInt8 => [Value.int .u8 (b.toNat : Int)]) = bcells l := by
  induction l with
  | nil => rfl
  | cons b l ih => rw [List.flatMap_cons, ih]; rfl

/-- bytes -/
theorem Rd.bytes {e : TypeId} (h : Rd enc P w t cs) (ht : P.underlying t = some (.slice e)) (he : P.underlying e = some (.int .u8)) (hsize : P.cellsOf e = 1) (hby : P.bytesOf e = 1) :
    ∃ (A : Option Addr) (n c : Nat) (l : List UInt8), cs = [.slice A n c] ∧ (A = none → n = 0 ∧ c = 0) ∧ n ≤ c ∧ c ≤ reachBytes ∧ l.length = n ∧ Reads w w.heap.size 1 A n (bcells l) := by
  obtain ⟨A, n, c, l, h1, h2, h3, h4, h5, h6, _, h8⟩ := h.rows ht hsize (by decide) (fun b : UInt8 => [.int .u8 (b.toNat : Int)]) (fun _ => True) (fun cs' hr => by
    obtain ⟨z, rfl, hz⟩ := hr.int he
    have hb := bounds_u8 hz
    refine ⟨UInt8.ofNat z.toNat, ?_, trivial⟩
    have : (UInt8.ofNat z.toNat).toNat = z.toNat := by
      rw [UInt8.toNat_ofNat']
      omega
    rw [this]
    have h : (z.toNat : Int) = z := Int.toNat_of_nonneg hb.1
    rw [h])
  rw [hby, Nat.mul_one] at h5
  refine ⟨A, n, c, l, h1, h2, h3, h5, h6, ?_⟩
  rwa [bcells_flat] at h8
end
end Go.Proofs.YtaojjjcaofhmcaaDoor
