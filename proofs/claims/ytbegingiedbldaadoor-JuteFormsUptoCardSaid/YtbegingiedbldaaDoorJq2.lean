/- What a script of readings comes to: plain functions. -/
import Derived.Test.YtbegingiedbldaaDoorJp
namespace Go.Proofs.YtbegingiedbldaaDoor
open Go.RowKit

structure St where
  k : Int
  most : Int
  least : Int
  n : Int
abbrev Gt : Type := List Int × List (List UInt8)

def stepR (s : St) : Rg Gt :=
  if s.k = 1 then gBool.map fun b => ([if b then 1 else 0], [])
  else if s.k = 2 then gByte.map fun n : Nat => ([(n : Int)], [])
  else if s.k = 3 then gInt.map fun z => ([z], [])
  else if s.k = 4 then gLong.map fun z => ([z], [])
  else if s.k = 5 then (gBuf s.most).map fun x => ([], [x])
  else if s.k = 6 then (gText s.most).map fun x => ([], [x])
  else if s.k = 7 then (gCount s.most s.least).map fun n : Nat => ([(n : Int)], [])
  else if s.k = 8 then (gGet s.most s.least (gText s.most)).map fun L => ([(L.length : Int)], L)
  else if s.k = 9 then gLeft.map fun z => ([z], [])
  else if s.k = 10 then (gFail s.n).map fun _ => ([], [])
  else Rg.ret ([], [])

def play : List St → List UInt8 → Nat → Gt × (Nat ⊕ (Int × Nat))
  | [], _, p => (([], []), .inl p)
  | s :: r, l, p => match stepR s l p with
    | .inl (g, q) => ((g.1 ++ (play r l q).1.1, g.2 ++ (play r l q).1.2), (play r l q).2)
    | .inr e => (([], []), .inr e)

theorem gText_inl {most : Int} {l x : List UInt8} {p q : Nat} (h : gText most l p = .inl (x, q)) : gBuf most l p = .inl (x, q) ∧ Lib.validD x = true := by
  unfold gText at h
  split at h
  · split at h
    · simp only [Sum.inl.injEq, Prod.mk.injEq] at h
      obtain ⟨rfl, rfl⟩ := h
      exact ⟨by assumption, by assumption⟩
    · cases h
  · cases h
theorem gBuf_at {most : Int} {l x : List UInt8} {p q : Nat} (h : gBuf most l p = .inl (x, q)) : p + 4 + x.length = q ∧ q ≤ l.length := by
  unfold gBuf at h
  split at h
  · rename_i n q' hs
    obtain ⟨_, rfl, _, _, _⟩ := gSize_inl hs
    split at h
    · simp only [Sum.inl.injEq, Prod.mk.injEq] at h
      obtain ⟨rfl, rfl⟩ := h
      rw [List.length_take, List.length_drop]
      omega
    · cases h
  · cases h
theorem gCount_at {most least : Int} {l : List UInt8} {p q n : Nat} (h : gCount most least l p = .inl (n, q)) : q = p + 4 ∧ q ≤ l.length ∧ n ≤ 2147483647 := by
  unfold gCount at h
  split at h
  · rename_i n' q' hs
    obtain ⟨h1, h2, _, hb, _⟩ := gSize_inl hs
    split at h
    · cases h
    · simp only [Sum.inl.injEq, Prod.mk.injEq] at h
      omega
  · cases h
theorem Rg.map_inl {α β : Type} {f : α → β} {g : Rg α} {l : List UInt8} {p q : Nat} {y : β} (h : g.map f l p = .inl (y, q)) : ∃ x, g l p = .inl (x, q) ∧ y = f x := by
  unfold Rg.map at h
  split at h
  · rename_i x r hx
    simp only [Sum.inl.injEq, Prod.mk.injEq] at h
    obtain ⟨rfl, rfl⟩ := h
    exact ⟨x, hx, rfl⟩
  · cases h
/-- each of so many takes four bytes at least -/
theorem gMany_at {α : Type} {g : Rg α} (hg : ∀ l p x q, g l p = .inl (x, q) → p + 4 ≤ q ∧ q ≤ l.length) : ∀ (n : Nat) (l : List UInt8) (p q : Nat) (L : List α), p ≤ l.length → gMany g n l p = .inl (L, q) → L.length = n ∧ p + 4 * n ≤ q ∧ q ≤ l.length
  | 0, l, p, q, L, hp, h => by
    simp only [gMany, Rg.ret, Sum.inl.injEq, Prod.mk.injEq] at h
    obtain ⟨rfl, rfl⟩ := h
    simp [hp]
  | n + 1, l, p, q, L, hp, h => by
    simp only [gMany, Rg.bind] at h
    split at h
    · rename_i x q1 hx
      obtain ⟨r, hr, rfl⟩ := Rg.map_inl h
      have h1 := hg _ _ _ _ hx
      have h2 := gMany_at hg n l q1 q r h1.2 hr
      simp only [List.length_cons]
      omega
    · cases h
theorem gText_at {most : Int} (l : List UInt8) (p : Nat) (x : List UInt8) (q : Nat) (h : gText most l p = .inl (x, q)) : p + 4 ≤ q ∧ q ≤ l.length := by
  have := gBuf_at (gText_inl h).1
  omega
theorem gGet_at {most least m : Int} {l : List UInt8} {p q : Nat} {L : List (List UInt8)} (h : gGet most least (gText m) l p = .inl (L, q)) : p + 4 + 4 * L.length ≤ q ∧ q ≤ l.length := by
  unfold gGet Rg.bind at h
  split at h
  · rename_i n q1 hc
    obtain ⟨rfl, h2, _⟩ := gCount_at hc
    have := gMany_at (fun l p x q => gText_at l p x q) n l _ q L h2 h
    omega
  · cases h
theorem gNum_at {k : Nat} {l : List UInt8} {p q n : Nat} (h : gNum k l p = .inl (n, q)) : q = p + k ∧ q ≤ l.length := by
  obtain ⟨h1, _, h2, _⟩ := gNum_inl h
  omega
theorem gBool_at {l : List UInt8} {p q : Nat} {b : Bool} (h : gBool l p = .inl (b, q)) : q = p + 1 ∧ q ≤ l.length := by
  unfold gBool at h
  split at h
  · rename_i n q' hn
    have := gNum_at hn
    split at h
    · cases h
    · simp only [Sum.inl.injEq, Prod.mk.injEq] at h
      omega
  · cases h
/-- a step goes on, and takes four bytes at least of each text -/
theorem stepR_at (s : St) {l : List UInt8} {p q : Nat} {g : Gt} (hp : p ≤ l.length) (h : stepR s l p = .inl (g, q)) : g.1.length ≤ 1 ∧ p + 4 * g.2.length ≤ q ∧ q ≤ l.length := by
  unfold stepR at h
  repeat' split at h
  · obtain ⟨x, hx, rfl⟩ := Rg.map_inl h; have := gBool_at hx; simp; omega
  · obtain ⟨x, hx, rfl⟩ := Rg.map_inl h; have := gNum_at hx; simp; omega
  · obtain ⟨x, hx, rfl⟩ := Rg.map_inl h; obtain ⟨_, hy, rfl⟩ := Rg.map_inl hx; have := gNum_at hy; simp; omega
  · obtain ⟨x, hx, rfl⟩ := Rg.map_inl h; obtain ⟨_, hy, rfl⟩ := Rg.map_inl hx; have := gNum_at hy; simp; omega
  · obtain ⟨x, hx, rfl⟩ := Rg.map_inl h; have := gBuf_at hx; simp; omega
  · obtain ⟨x, hx, rfl⟩ := Rg.map_inl h; have := gText_at _ _ _ _ hx; simp; omega
  · obtain ⟨x, hx, rfl⟩ := Rg.map_inl h; have := gCount_at hx; simp; omega
  · obtain ⟨x, hx, rfl⟩ := Rg.map_inl h; have := gGet_at hx; simp; omega
  · obtain ⟨x, hx, rfl⟩ := Rg.map_inl h; simp only [gLeft, Sum.inl.injEq, Prod.mk.injEq] at hx; simp; omega
  · obtain ⟨x, hx, rfl⟩ := Rg.map_inl h
    unfold gFail at hx
    split at hx
    · simp only [Sum.inl.injEq, Prod.mk.injEq] at hx; simp; omega
    · cases hx
  · simp only [Rg.ret, Sum.inl.injEq, Prod.mk.injEq] at h
    obtain ⟨rfl, rfl⟩ := h
    simp [hp]
end Go.Proofs.YtbegingiedbldaaDoor
