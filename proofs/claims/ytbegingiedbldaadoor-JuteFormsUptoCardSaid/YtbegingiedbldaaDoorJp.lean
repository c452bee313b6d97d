/- What a reading of bytes comes to: plain functions. -/
import Derived.Test.YtbegingiedbldaaDoorJk
import Derived.Lib.ValidU
namespace Go.Proofs.YtbegingiedbldaaDoor
open Go.RowKit

/-- a reading: of the bytes, from a place on: a value and the place behind it; or the error and the place where it fails -/
def Rg (α : Type) : Type := List UInt8 → Nat → (α × Nat) ⊕ (Int × Nat)
def Rg.ret {α : Type} (x : α) : Rg α := fun _ p => .inl (x, p)
def Rg.bind {α β : Type} (f : Rg α) (g : α → Rg β) : Rg β := fun l p =>
  match f l p with
  | .inl (x, q) => g x l q
  | .inr e => .inr e
def Rg.map {α β : Type} (f : α → β) (g : Rg α) : Rg β := fun l p =>
  match g l p with
  | .inl (x, q) => .inl (f x, q)
  | .inr e => .inr e

def gNext (k : Nat) : Rg (List UInt8) := fun l p => if p + k ≤ l.length then .inl ((l.drop p).take k, p + k) else .inr (20, p)
def gNum (k : Nat) : Rg Nat := (gNext k).map beNum
def gBool : Rg Bool := fun l p =>
  match gNum 1 l p with
  | .inl (n, q) => if 1 < n then .inr (22, p) else .inl (n == 1, q)
  | .inr e => .inr e
def gByte : Rg Nat := gNum 1
def gInt : Rg Int := (gNum 4).map fun n : Nat => wrap32 n
def gLong : Rg Int := (gNum 8).map fun n : Nat => wrap64 n
def gSize (most : Int) : Rg Nat := fun l p =>
  match gInt l p with
  | .inl (n, q) => if n < 0 ∨ most < n then .inr (22, p) else .inl (n.toNat, q)
  | .inr e => .inr e
def gBuf (most : Int) : Rg (List UInt8) := fun l p =>
  match gSize most l p with
  | .inl (n, q) => if q + n ≤ l.length then .inl ((l.drop q).take n, q + n) else .inr (20, p)
  | .inr e => .inr e
def gText (most : Int) : Rg (List UInt8) := fun l p =>
  match gBuf most l p with
  | .inl (b, q) => if Lib.validD b = true then .inl (b, q) else .inr (22, p)
  | .inr e => .inr e
def gCount (most least : Int) : Rg Nat := fun l p =>
  match gSize most l p with
  | .inl (n, q) => if 1 ≤ least ∧ ((l.length - q : Nat) : Int) / least < n then .inr (20, p) else .inl (n, q)
  | .inr e => .inr e
def gLeft : Rg Int := fun l p => .inl (((l.length - p : Nat) : Int), p)
def gFail (e : Int) : Rg Unit := fun _ p => if e = 0 then .inl ((), p) else .inr (e, p)

/-- so many, one behind the other -/
def gMany {α : Type} (g : Rg α) : Nat → Rg (List α)
  | 0 => Rg.ret []
  | n + 1 => g.bind fun x => (gMany g n).map fun r => x :: r
/-- a count, and so many -/
def gGet {α : Type} (most least : Int) (g : Rg α) : Rg (List α) := (gCount most least).bind fun n => gMany g n

/-- a reading stays among the bytes and goes on -/
def Rg.Ok {α : Type} (g : Rg α) : Prop := ∀ l p, p ≤ l.length → match g l p with
  | .inl (_, q) => p ≤ q ∧ q ≤ l.length
  | .inr (e, q) => p ≤ q ∧ q ≤ l.length ∧ e ≠ 0

section
variable {l : List UInt8} {p q k n : Nat} {x : List UInt8} {most least z e : Int}
theorem gNext_inl (h : gNext k l p = .inl (x, q)) : p + k ≤ l.length ∧ x = (l.drop p).take k ∧ q = p + k ∧ x.length = k := by
  unfold gNext at h
  split at h
  · simp only [Sum.inl.injEq, Prod.mk.injEq] at h
    obtain ⟨rfl, rfl⟩ := h
    exact ⟨by assumption, rfl, rfl, by simp; omega⟩
  · cases h
theorem gNum_inl (h : gNum k l p = .inl (n, q)) : p + k ≤ l.length ∧ n = beNum ((l.drop p).take k) ∧ q = p + k ∧ n < 256 ^ k := by
  unfold gNum Rg.map at h
  split at h
  · rename_i y r hy
    simp only [Sum.inl.injEq, Prod.mk.injEq] at h
    obtain ⟨rfl, rfl⟩ := h
    obtain ⟨h1, rfl, rfl, h4⟩ := gNext_inl hy
    have := beNum_lt ((l.drop p).take k)
    rw [h4] at this
    exact ⟨h1, rfl, rfl, this⟩
  · cases h
theorem gInt_inl (h : gInt l p = .inl (z, q)) : p + 4 ≤ l.length ∧ z = wrap32 (beNum ((l.drop p).take 4)) ∧ q = p + 4 := by
  unfold gInt Rg.map at h
  split at h
  · rename_i y r hy
    simp only [Sum.inl.injEq, Prod.mk.injEq] at h
    obtain ⟨rfl, rfl⟩ := h
    obtain ⟨h1, rfl, rfl, _⟩ := gNum_inl hy
    exact ⟨h1, rfl, rfl⟩
  · cases h
theorem wrap32_bd (z : Int) : -2147483648 ≤ wrap32 z ∧ wrap32 z ≤ 2147483647 := by unfold wrap32; omega
theorem gSize_inl (h : gSize most l p = .inl (n, q)) : p + 4 ≤ l.length ∧ q = p + 4 ∧ (n : Int) ≤ most ∧ n ≤ 2147483647 ∧ gInt l p = .inl ((n : Int), q) := by
  unfold gSize at h
  split at h
  · rename_i y r hy
    obtain ⟨h1, h2, rfl⟩ := gInt_inl hy
    split at h
    · cases h
    · simp only [Sum.inl.injEq, Prod.mk.injEq] at h
      obtain ⟨rfl, rfl⟩ := h
      have hb := wrap32_bd (beNum ((l.drop p).take 4))
      rw [← h2] at hb
      have e : ((y.toNat : Nat) : Int) = y := by omega
      rw [e]
      exact ⟨h1, rfl, by omega, by omega, hy⟩
  · cases h
end
end Go.Proofs.YtbegingiedbldaaDoor
