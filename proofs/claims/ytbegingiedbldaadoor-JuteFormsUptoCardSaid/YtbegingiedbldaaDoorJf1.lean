/- JuteForms: what was read, written again, is what was read: plain. -/
import Derived.Test.YtbegingiedbldaaDoorJb1
namespace Go.Proofs.YtbegingiedbldaaDoor
open Go.RowKit

theorem be_num (d : List UInt8) : ∀ m, beBytes (m * 256 ^ d.length + beNum d) d.length = d := by
  have hc : ∀ (b : UInt8) (d : List UInt8), beNum (b :: d) = b.toNat * 256 ^ d.length + beNum d := by
    intro b d
    have h : ∀ (d : List UInt8) (n : Nat), d.foldl (fun n b => n * 256 + b.toNat) n = n * 256 ^ d.length + beNum d := by
      intro d
      induction d with
      | nil => intro n; simp [beNum]
      | cons a d ih =>
        intro n
        have e1 := ih (n * 256 + a.toNat)
        have e2 := ih a.toNat
        simp only [List.foldl_cons, List.length_cons, beNum, Nat.zero_mul, Nat.zero_add] at e1 e2 ⊢
        rw [e1, e2, Nat.pow_succ, Nat.add_mul, Nat.mul_assoc, Nat.mul_comm 256]
        omega
    have := h d b.toNat
    simp only [beNum, List.foldl_cons, Nat.zero_mul, Nat.zero_add] at this ⊢
    exact this
  induction d with
  | nil => intro m; rfl
  | cons b d ih =>
    intro m
    have hlt := beNum_lt d
    have hp : 0 < 256 ^ d.length := Nat.pow_pos (by decide)
    have e : m * 256 ^ (b :: d).length + beNum (b :: d) = (m * 256 + b.toNat) * 256 ^ d.length + beNum d := by
      rw [hc, List.length_cons, Nat.pow_succ, Nat.add_mul, Nat.mul_assoc, Nat.mul_comm 256]
      omega
    rw [e, List.length_cons]
    simp only [beBytes]
    rw [ih, Nat.mul_comm _ (256 ^ d.length), Nat.mul_add_div hp, Nat.div_eq_of_lt hlt, Nat.add_zero]
    congr 1
    apply UInt8.toNat_inj.1
    rw [UInt8.toNat_ofNat']
    have := b.toNat_lt
    omega
theorem num_back {k : Nat} {l : List UInt8} {p n q : Nat} (h : gNum k l p = .inl (n, q)) : beBytes n k = (l.drop p).take k ∧ q = p + k ∧ q ≤ l.length := by
  obtain ⟨h1, rfl, h3, _⟩ := gNum_inl h
  have hl : ((l.drop p).take k).length = k := by rw [List.length_take, List.length_drop]; omega
  have := be_num ((l.drop p).take k) 0
  rw [hl, Nat.zero_mul, Nat.zero_add] at this
  exact ⟨this, h3, by omega⟩
theorem int_back {l : List UInt8} {p q : Nat} {z : Int} (h : gInt l p = .inl (z, q)) : bInt z = (l.drop p).take 4 ∧ q = p + 4 ∧ q ≤ l.length := by
  unfold gInt at h
  obtain ⟨n, hn, rfl⟩ := Rg.map_inl h
  obtain ⟨h1, h2, h3⟩ := num_back hn
  have hb := (gNum_inl hn).2.2.2
  refine ⟨?_, h2, h3⟩
  have e : u32N (wrap32 (n : Int)) = n := by unfold u32N wrap32; omega
  unfold bInt
  rw [e, h1]
theorem long_back {l : List UInt8} {p q : Nat} {z : Int} (h : gLong l p = .inl (z, q)) : bLong z = (l.drop p).take 8 ∧ q = p + 8 ∧ q ≤ l.length := by
  unfold gLong at h
  obtain ⟨n, hn, rfl⟩ := Rg.map_inl h
  obtain ⟨h1, h2, h3⟩ := num_back hn
  have hb := (gNum_inl hn).2.2.2
  refine ⟨?_, h2, h3⟩
  have e : u64N (wrap64 (n : Int)) = n := by unfold u64N wrap64; rw [IntKind.wrap_u64]; omega
  unfold bLong
  rw [e, h1]
theorem take_two (l : List UInt8) (p a b : Nat) : (l.drop p).take (a + b) = (l.drop p).take a ++ (l.drop (p + a)).take b := by
  rw [List.take_add, List.drop_drop]
theorem buf_back {most : Int} {l x : List UInt8} {p q : Nat} (h : gBuf most l p = .inl (x, q)) : bBuf x = (l.drop p).take (q - p) ∧ p ≤ q ∧ q ≤ l.length := by
  unfold gBuf at h
  split at h
  · rename_i n q' hs
    obtain ⟨_, rfl, _, _, hi⟩ := gSize_inl hs
    obtain ⟨hb, _, _⟩ := int_back hi
    split at h
    · rename_i hle
      simp only [Sum.inl.injEq, Prod.mk.injEq] at h
      obtain ⟨rfl, rfl⟩ := h
      have hl : ((l.drop (p + 4)).take n).length = n := by rw [List.length_take, List.length_drop]; omega
      refine ⟨?_, by omega, by omega⟩
      rw [show p + 4 + n - p = 4 + n by omega, take_two]
      unfold bBuf
      rw [hl, hb]
    · cases h
  · cases h
theorem text_back {most : Int} {l x : List UInt8} {p q : Nat} (h : gText most l p = .inl (x, q)) : bBuf x = (l.drop p).take (q - p) ∧ p ≤ q ∧ q ≤ l.length := buf_back (gText_inl h).1
theorem many_back {most : Int} {l : List UInt8} : ∀ (n p q : Nat) (L : List (List UInt8)), p ≤ l.length → gMany (gText most) n l p = .inl (L, q) → (L.flatMap bBuf) = (l.drop p).take (q - p) ∧ p ≤ q ∧ q ≤ l.length ∧ L.length = n
  | 0, p, q, L, hp, h => by
    simp only [gMany, Rg.ret, Sum.inl.injEq, Prod.mk.injEq] at h
    obtain ⟨rfl, rfl⟩ := h
    simp [hp]
  | n + 1, p, q, L, hp, h => by
    rw [gMany_succ] at h
    split at h
    · rename_i x q1 hx
      split at h
      · rename_i r q2 hr
        simp only [Sum.inl.injEq, Prod.mk.injEq] at h
        obtain ⟨rfl, rfl⟩ := h
        obtain ⟨h1, h2, h3⟩ := text_back hx
        obtain ⟨h4, h5, h6, h7⟩ := many_back n q1 q2 r h3 hr
        refine ⟨?_, by omega, h6, by simp [h7]⟩
        rw [List.flatMap_cons, h1, h4, show q2 - p = (q1 - p) + (q2 - q1) by omega, take_two, show p + (q1 - p) = q1 by omega]
      · cases h
    · cases h
theorem count_back {most least : Int} {l : List UInt8} {p q n : Nat} (h : gCount most least l p = .inl (n, q)) : bInt n = (l.drop p).take 4 ∧ q = p + 4 ∧ q ≤ l.length := by
  unfold gCount at h
  split at h
  · rename_i n' q' hs
    split at h
    · cases h
    · simp only [Sum.inl.injEq, Prod.mk.injEq] at h
      obtain ⟨rfl, rfl⟩ := h
      exact int_back (gSize_inl hs).2.2.2.2
  · cases h
/-- the value that a step's reading is written as; its list lies at A -/
def vlOf (k : Int) (g : Gt) (A : Option Addr) (n c : Nat) : Vl := ⟨k, if k = 5 ∨ k = 6 then 0 else g.1.headD 0, if k = 5 ∨ k = 6 then bs (g.2.headD []) else ByteArray.empty, A, n, c, if k = 8 then g.2.map bs else []⟩
/-- the shape of what a step reads -/
def GtShape (k : Int) (g : Gt) : Prop := if k = 5 ∨ k = 6 then ∃ x, g = ([], [x]) else if k = 8 then g.1 = [(g.2.length : Int)] else ∃ z, g = ([z], [])
theorem form_step {k most : Int} {l : List UInt8} {p q : Nat} {g : Gt} (hk : 1 ≤ k ∧ k ≤ 8) (hp : p ≤ l.length) (h : stepR ⟨k, most, 0, 0⟩ l p = .inl (g, q)) :
    GtShape k g ∧ p ≤ q ∧ q ≤ l.length ∧ ∀ A c, bVl (vlOf k g A (if k = 8 then g.2.length else 0) c) = (l.drop p).take (q - p) := by
  have hk8 : k = 1 ∨ k = 2 ∨ k = 3 ∨ k = 4 ∨ k = 5 ∨ k = 6 ∨ k = 7 ∨ k = 8 := by omega
  rcases hk8 with rfl | rfl | rfl | rfl | rfl | rfl | rfl | rfl
  · have h' : (gBool.map fun b => (([if b then 1 else 0], []) : Gt)) l p = .inl (g, q) := by simpa [stepR] using h
    obtain ⟨b, hb, rfl⟩ := Rg.map_inl h'
    unfold gBool at hb
    split at hb
    · rename_i n q' hn
      split at hb
      · cases hb
      · rename_i hle
        simp only [Sum.inl.injEq, Prod.mk.injEq] at hb
        obtain ⟨rfl, rfl⟩ := hb
        obtain ⟨h1, rfl, h3⟩ := num_back hn
        refine ⟨⟨_, rfl⟩, by omega, h3, fun A c => ?_⟩
        rw [show p + 1 - p = 1 by omega, ← h1]
        have hn2 : n = 0 ∨ n = 1 := by omega
        rcases hn2 with rfl | rfl <;> rfl
    · cases hb
  · have h' : (gByte.map fun n : Nat => (([(n : Int)], []) : Gt)) l p = .inl (g, q) := by simpa [stepR] using h
    obtain ⟨n, hn, rfl⟩ := Rg.map_inl h'
    obtain ⟨h1, rfl, h3⟩ := num_back hn
    have hb := (gNum_inl hn).2.2.2
    refine ⟨⟨_, rfl⟩, by omega, h3, fun A c => ?_⟩
    rw [show p + 1 - p = 1 by omega, ← h1]
    have e : ((n : Int) % 256).toNat = n := by omega
    simp [bVl, vlOf, bByte, beBytes, e]
  · have h' : (gInt.map fun z => (([z], []) : Gt)) l p = .inl (g, q) := by simpa [stepR] using h
    obtain ⟨z, hz, rfl⟩ := Rg.map_inl h'
    obtain ⟨h1, rfl, h3⟩ := int_back hz
    refine ⟨⟨_, rfl⟩, by omega, h3, fun A c => ?_⟩
    rw [show p + 4 - p = 4 by omega, ← h1]
    simp [bVl, vlOf]
  · have h' : (gLong.map fun z => (([z], []) : Gt)) l p = .inl (g, q) := by simpa [stepR] using h
    obtain ⟨z, hz, rfl⟩ := Rg.map_inl h'
    obtain ⟨h1, rfl, h3⟩ := long_back hz
    refine ⟨⟨_, rfl⟩, by omega, h3, fun A c => ?_⟩
    rw [show p + 8 - p = 8 by omega, ← h1]
    simp [bVl, vlOf]
  · have h' : ((gBuf most).map fun x => (([], [x]) : Gt)) l p = .inl (g, q) := by simpa [stepR] using h
    obtain ⟨x, hx, rfl⟩ := Rg.map_inl h'
    obtain ⟨h1, h2, h3⟩ := buf_back hx
    refine ⟨⟨x, rfl⟩, h2, h3, fun A c => ?_⟩
    rw [← h1]
    simp [bVl, vlOf, bs]
  · have h' : ((gText most).map fun x => (([], [x]) : Gt)) l p = .inl (g, q) := by simpa [stepR] using h
    obtain ⟨x, hx, rfl⟩ := Rg.map_inl h'
    obtain ⟨h1, h2, h3⟩ := text_back hx
    refine ⟨⟨x, rfl⟩, h2, h3, fun A c => ?_⟩
    rw [← h1]
    simp [bVl, vlOf, bs]
  · have h' : ((gCount most 0).map fun n : Nat => (([(n : Int)], []) : Gt)) l p = .inl (g, q) := by simpa [stepR] using h
    obtain ⟨n, hn, rfl⟩ := Rg.map_inl h'
    obtain ⟨h1, rfl, h3⟩ := count_back hn
    refine ⟨⟨_, rfl⟩, by omega, h3, fun A c => ?_⟩
    rw [show p + 4 - p = 4 by omega, ← h1]
    simp [bVl, vlOf]
  · have h' : ((gGet most 0 (gText most)).map fun L => (([(L.length : Int)], L) : Gt)) l p = .inl (g, q) := by simpa [stepR] using h
    obtain ⟨L, hL, rfl⟩ := Rg.map_inl h'
    unfold gGet Rg.bind at hL
    split at hL
    · rename_i n q' hn
      obtain ⟨h1, rfl, h3⟩ := count_back hn
      obtain ⟨h4, h5, h6, h7⟩ := many_back n _ q L h3 hL
      refine ⟨rfl, by omega, h6, fun A c => ?_⟩
      rw [show q - p = 4 + (q - (p + 4)) by omega, take_two, ← h1, ← h4, ← h7]
      simp [bVl, vlOf, bTexts, List.flatMap_map, bs]
    · cases hL
end Go.Proofs.YtbegingiedbldaaDoor
