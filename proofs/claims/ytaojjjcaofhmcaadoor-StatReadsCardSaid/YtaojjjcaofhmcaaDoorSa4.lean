/- StatOwn: a node whose bytes and permissions lie in memory that is its own: what stays when they are written over. -/
import Derived.Test.YtaojjjcaofhmcaaDoorSa1
set_option linter.unusedVariables false
set_option linter.unusedSimpArgs false
namespace Go.Proofs.YtaojjjcaofhmcaaDoor
open Go.RowKit

/-- block b holds a node; its bytes and its permissions lie in blocks of [B, U), apart -/
structure Ov (w : World) (B U b : Nat) (D : Option Addr) (n k : Nat) (A : Option Addr) (m c : Nat) : Prop where
  lo : B ≤ b
  hi : b < U
  node : ∃ cs, Blk w b 32 cs ∧ cs[1]? = some (.slice D n k) ∧ cs[2]? = some (.slice A m c)
  data : 0 < n → ∃ g cur, D = some ⟨g, 0, none⟩ ∧ B ≤ g ∧ g < U ∧ Blk w g 5 cur ∧ ∀ i, i < n → ∃ x : Int, cur[i]? = some (.int .u8 x)
  acls : 0 < m → ∃ g cur, A = some ⟨g, 0, none⟩ ∧ B ≤ g ∧ g < U ∧ Blk w g 57 cur ∧ m * 3 ≤ cur.size
  cap : n ≤ k ∧ m ≤ c

theorem Ov.keep {w w' : World} {B U b n k m c : Nat} {D A : Option Addr} (h : Ov w B U b D n k A m c) (hk : ∀ g, B ≤ g → g < U → w'.heap[g]? = w.heap[g]?) : Ov w' B U b D n k A m c := by
  refine ⟨h.lo, h.hi, ?_, fun h0 => ?_, fun h0 => ?_, h.cap⟩
  · obtain ⟨cs, h1, h2, h3⟩ := h.node
    exact ⟨cs, (hk b h.lo h.hi).trans h1, h2, h3⟩
  · obtain ⟨g, cur, h1, h2, h3, h4, h5⟩ := h.data h0
    exact ⟨g, cur, h1, h2, h3, (hk g h2 h3).trans h4, h5⟩
  · obtain ⟨g, cur, h1, h2, h3, h4, h5⟩ := h.acls h0
    exact ⟨g, cur, h1, h2, h3, (hk g h2 h3).trans h4, h5⟩
theorem Ov.below {w w' : World} {B U b n k m c : Nat} {D A : Option Addr} (h : Ov w B U b D n k A m c) (hb : Below U w w') : Ov w' B U b D n k A m c := h.keep fun g _ h2 => hb.block g h2
/-- another's byte is written -/
theorem Ov.far {w : World} {B U b n k m c : Nat} {D A : Option Addr} (h : Ov w B U b D n k A m c) {p : Addr} (hp : p.block < B ∨ U ≤ p.block) (u : Value) : Ov (w.setCell p u) B U b D n k A m c :=
  h.keep fun g h1 h2 => Below.heap_setCell w p u g (by omega)
theorem Ov.setD {w : World} {B U b n k m c g i : Nat} {A : Option Addr} (h : Ov w B U b (some ⟨g, 0, none⟩) n k A m c) (hi : i < n) (x : Int) : Ov (w.setCell ⟨g, i, none⟩ (.int .u8 x)) B U b (some ⟨g, 0, none⟩) n k A m c := by
  obtain ⟨g', cur, e, h1, h2, h3, h4⟩ := h.data (by omega)
  injection e with e
  injection e with e
  subst e
  obtain ⟨cs, n1, n2, n3⟩ := h.node
  refine ⟨h.lo, h.hi, ⟨cs, n1.far (n1.ne_ h3 (by decide)) _, n2, n3⟩, fun _ => ⟨g, _, rfl, h1, h2, h3.set_ i _, fun j hj => ?_⟩, fun h0 => ?_, h.cap⟩
  · obtain ⟨y, hy⟩ := h4 j hj
    by_cases hij : i = j
    · subst hij
      obtain ⟨hlt, _⟩ := Array.getElem?_eq_some_iff.1 hy
      exact ⟨x, by simp [hlt]⟩
    · exact ⟨y, by rw [Array.getElem?_setIfInBounds_ne hij]; exact hy⟩
  · obtain ⟨g', cur', a1, a2, a3, a4, a5⟩ := h.acls h0
    exact ⟨g', cur', a1, a2, a3, a4.far (a4.ne_ h3 (by decide)) _, a5⟩
theorem Ov.setA {w : World} {B U b n k m c g : Nat} {D : Option Addr} (h : Ov w B U b D n k (some ⟨g, 0, none⟩) m c) (hm : 0 < m) (i : Nat) (u : Value) : Ov (w.setCell ⟨g, i, none⟩ u) B U b D n k (some ⟨g, 0, none⟩) m c := by
  obtain ⟨g', cur, e, h1, h2, h3, h4⟩ := h.acls hm
  injection e with e
  injection e with e
  subst e
  obtain ⟨cs, n1, n2, n3⟩ := h.node
  refine ⟨h.lo, h.hi, ⟨cs, n1.far (n1.ne_ h3 (by decide)) _, n2, n3⟩, fun h0 => ?_, fun _ => ⟨g, _, rfl, h1, h2, h3.set_ i _, by simpa using h4⟩, h.cap⟩
  obtain ⟨g', cur', a1, a2, a3, a4, a5⟩ := h.data h0
  exact ⟨g', cur', a1, a2, a3, a4.far (a4.ne_ h3 (by decide)) _, a5⟩
/-- out of rows that are its own -/
theorem Ov.mk' {w0 w : World} {B b n k m c : Nat} {D A : Option Addr} {cs : Array Value} {l : List UInt8} {ys : List Value} (h1 : w0.ownsRow B 5 1 (.slice D n k) n (bcells l)) (h2 : w0.ownsRow B 57 3 (.slice A m c) m ys) (hl : l.length = n) (hys : ys.length = m * 3)
    (hbl : Below w0.heap.size w0 w) (hb : Blk w b 32 cs) (hlo : B ≤ b) (c1 : cs[1]? = some (.slice D n k)) (c2 : cs[2]? = some (.slice A m c)) : Ov w B w.heap.size b D n k A m c := by
  refine ⟨hlo, hb.lt, ⟨cs, hb, c1, c2⟩, fun h0 => ?_, fun h0 => ?_, own_cap h1, own_cap h2⟩
  · have hrd := Reads.of_own h1
    rcases h1.2 with ⟨e, _⟩ | ⟨g, cap, cur, e, hg, h3, h4, h5⟩
    · injection e with _ e _
      omega
    · injection e with e _ _
      subst e
      have hB : Blk w0 g 5 cur := h3
      refine ⟨g, cur, rfl, hg, Nat.lt_of_lt_of_le hB.lt hbl.size, hB.below hbl hB.lt, fun i hi => ?_⟩
      obtain ⟨b', off', e', _, hx⟩ := hrd.plain (by omega) (Nat.le_refl _)
      injection e' with e'
      injection e' with e1 e2
      subst e1 e2
      have := hx i (.int .u8 l[i].toNat) (by simp [bcells, hl, hi])
      rw [Nat.zero_add, hB.cell] at this
      exact ⟨_, this⟩
  · rcases h2.2 with ⟨e, _⟩ | ⟨g, cap, cur, e, hg, h3, h4, h5⟩
    · injection e with _ e _
      omega
    · injection e with e _ _
      subst e
      have hB : Blk w0 g 57 cur := h3
      refine ⟨g, cur, rfl, hg, Nat.lt_of_lt_of_le hB.lt hbl.size, hB.below hbl hB.lt, ?_⟩
      rw [h5.2.1]
      exact Nat.mul_le_mul_right 3 h4
end Go.Proofs.YtaojjjcaofhmcaaDoor
