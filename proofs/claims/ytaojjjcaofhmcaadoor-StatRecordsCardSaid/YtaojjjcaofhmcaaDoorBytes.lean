/- A slice of bytes as a list of bytes; as a string. -/
import Derived.Test.YtaojjjcaofhmcaaDoorWords
import Derived.Laws.BytesArg
namespace Go.Proofs.YtaojjjcaofhmcaaDoor
open Go.RowKit

/-- the cells of bytes -/
def bcells (l : List UInt8) : List Value := l.map fun b => .int .u8 (b.toNat : Int)
theorem bcells_length (l : List UInt8) : (bcells l).length = l.length := by simp [bcells]
theorem bcells_get (l : List UInt8) (i : Nat) : (bcells l)[i]? = l[i]?.map fun b => .int .u8 (b.toNat : Int) := by simp [bcells]
theorem bcells_one (l : List UInt8) : ∀ u ∈ bcells l, u.oneCell' = true := by
  intro u hu
  obtain ⟨b, _, rfl⟩ := List.mem_map.1 hu
  rfl
theorem bcells_append (l m : List UInt8) : bcells (l ++ m) = bcells l ++ bcells m := by simp [bcells]
theorem bcells_inj {l m : List UInt8} (h : bcells l = bcells m) : l = m := by
  induction l generalizing m with
  | nil => cases m with
    | nil => rfl
    | cons b m => simp [bcells] at h
  | cons a l ih => cases m with
    | nil => simp [bcells] at h
    | cons b m =>
      simp only [bcells, List.map_cons, List.cons.injEq, Value.int.injEq, true_and] at h
      obtain ⟨h1, h2⟩ := h
      have : a = b := UInt8.toNat_inj.1 (by omega)
      rw [this, ih h2]

theorem Reads.plain {w : World} {B size n : Nat} {A : Option Addr} {xs : List Value} (h : Reads w B size A n xs) (hn : 0 < n) (hs : 0 < size) :
    ∃ b off, A = some ⟨b, off, none⟩ ∧ b < B ∧ ∀ j u, xs[j]? = some u → w.cell? ⟨b, off + j, none⟩ = some u := by
  obtain ⟨⟨b, off, spot⟩, rfl, hb, hc⟩ := h.2 hn
  have hl : 0 < xs.length := by rw [h.1]; exact Nat.mul_pos hn hs
  have h0 := hc 0 _ (List.getElem?_eq_getElem hl)
  have hspot : spot = none := by simpa [Addr.add] using World.cell?_spot h0
  subst hspot
  refine ⟨b, off, rfl, hb, fun j u hu => ?_⟩
  have := hc j u hu
  rwa [Go.WideShapes.add_plain] at this

theorem ofNat_toNat (b : UInt8) : UInt8.ofNat ((b.toNat : Int).toNat) = b := by simp

theorem run_string_of_bytes {P : Program} {w : World} {src e : TypeId} (hs : P.underlying src = some (.slice e)) (he : P.underlying e = some (.int .u8)) {B n c : Nat} {A : Option Addr} {l : List UInt8} (hr : Reads w B 1 A n (bcells l)) :
    ∀ dst, P.underlying dst = some .string → (convert src dst (.slice A n c)).run P w = .ok (.string ⟨l.toArray⟩) w := by
  have hl : l.length = n := by have := hr.1; rw [bcells_length] at this; omega
  intro dst hd
  rcases A with _ | ad
  · have hn : n = 0 := by
      rcases Nat.eq_zero_or_pos n with h | h
      · exact h
      · obtain ⟨_, h', _⟩ := hr.2 h; cases h'
    subst hn
    have : l = [] := List.eq_nil_of_length_eq_zero hl
    subst this
    exact run_convert_bytes_nil w src e hs he 0 c dst hd
  · rw [run_convert_bytes_string w src dst e _ n c hs he hd]
    have hlc : (loadCells ad n).run P w = .ok ((l.map fun b : UInt8 => (b.toNat : Int)).map (Value.int .u8)).toArray w := by
      have h := run_loadCells_list (P := P) w ad (bcells l) (fun j v hv => by
        have hn : 0 < n := by
          rcases Nat.eq_zero_or_pos n with h | h
          · subst h
            have : l = [] := List.eq_nil_of_length_eq_zero hl
            subst this
            simp [bcells] at hv
          · exact h
        obtain ⟨ad', h', _, hc⟩ := hr.2 hn
        injection h' with h'
        subst h'
        exact hc j v hv)
      rw [bcells_length, hl] at h
      rw [h]
      simp [bcells]
    rw [run_bytesToString w ad n c (l.map fun b : UInt8 => (b.toNat : Int)) hlc, foldl_push_bytes]
    congr 2
    show (⟨#[] ++ _⟩ : ByteArray) = _
    congr 1
    simp [List.map_map, Function.comp_def]
end Go.Proofs.YtaojjjcaofhmcaaDoor
