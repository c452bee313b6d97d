/- What stands in a multi, read by the document. (printed by gen_h4.py) -/
import Derived.Test.YtpjjnmdfgcfnmaaGreatDoorOh3
import Derived.Test.YtpjjnmdfgcfnmaaGreatDoorOq30b
set_option linter.unusedVariables false
set_option linter.unusedSimpArgs false
namespace Go.Proofs.YtpjjnmdfgcfnmaaGreatDoor
open Go.RowKit

/-- the counts go up, the depth stays -/
def Mono (S : Int → Cnt → Rg (List OpC × Cnt)) : Prop := ∀ i k l p xs k' q, S i k l p = .inl ((xs, k'), q) → k.parts ≤ k'.parts ∧ k.multis ≤ k'.multis ∧ k'.depth = k.depth ∧ (k.parts ≤ 1024 → k.multis ≤ 1024 → k'.parts ≤ 1024 ∧ k'.multis ≤ 1024)
theorem opWith_mono {S : Int → Cnt → Rg (List OpC × Cnt)} (hS : Mono S) {t : Int} {k : Cnt} {l : List UInt8} {p : Nat} {x : OpC} {k' : Cnt} {q : Nat} (h : opWith S t k l p = .inl ((x, k'), q)) : k.parts ≤ k'.parts ∧ k.multis ≤ k'.multis ∧ k'.depth = k.depth ∧ (k.parts ≤ 1024 → k.multis ≤ 1024 → k'.parts ≤ 1024 ∧ k'.multis ≤ 1024) := by
  unfold opWith at h
  split at h
  · cases h
  split at h
  · obtain ⟨⟨xs, k2⟩, h1, h2⟩ := map_inl h
    injection h2 with _ h2
    subst h2
    obtain ⟨a, b, c, d⟩ := hS _ _ _ _ _ _ _ h1
    dsimp only at a b c d ⊢
    exact ⟨a, b, by omega, d⟩
  split at h
  · obtain ⟨_, h1, h2⟩ := map_inl h
    injection h2 with _ h2
    subst h2
    exact ⟨Nat.le_refl _, Nat.le_refl _, rfl, fun a b => ⟨a, b⟩⟩
  split at h
  · obtain ⟨_, h1, h2⟩ := map_inl h
    injection h2 with _ h2
    subst h2
    exact ⟨Nat.le_refl _, Nat.le_refl _, rfl, fun a b => ⟨a, b⟩⟩
  · obtain ⟨_, h1, h2⟩ := map_inl h
    injection h2 with _ h2
    subst h2
    exact ⟨Nat.le_refl _, Nat.le_refl _, rfl, fun a b => ⟨a, b⟩⟩
theorem more_le (k : Cnt) (t : Int) : k.parts ≤ (k.more t).parts ∧ k.multis ≤ (k.more t).multis ∧ (k.more t).depth = k.depth ∧ (k.more t).parts + (k.more t).multis = k.parts + k.multis + 1 := by
  unfold Cnt.more
  split <;> (dsimp only; omega)
theorem not_big {k : Cnt} {t : Int} (h : ¬ k.big t = true) : k.parts ≤ 1024 ∧ k.multis ≤ 1024 := by
  unfold Cnt.big at h
  simp only [Bool.or_eq_true, decide_eq_true_eq, not_or] at h
  omega
theorem subs_mono : ∀ n, Mono (gSubs n)
  | 0 => fun i k l p xs k' q h => by cases h
  | n + 1 => fun i k l p xs k' q h => by
    rw [gSubs_succ] at h
    obtain ⟨t, p1, _, h⟩ := bind_inl h
    unfold hdrR at h
    split at h
    · cases h
    unfold markR at h
    obtain ⟨e, p2, _, h⟩ := bind_inl h
    split at h
    · cases h
    unfold numR at h
    obtain ⟨z, p3, _, h⟩ := bind_inl h
    split at h
    · cases h
    unfold itemR at h
    split at h
    · cases h
      exact ⟨Nat.le_refl _, Nat.le_refl _, rfl, fun a b => ⟨a, b⟩⟩
    split at h
    · cases h
    rename_i hb
    unfold itemOf at h
    obtain ⟨⟨x, k1⟩, p4, h1, h⟩ := bind_inl h
    obtain ⟨⟨ys, k2⟩, h2, h3⟩ := map_inl h
    injection h3 with _ h3
    subst h3
    obtain ⟨a1, a2, a3, a4⟩ := opWith_mono (subs_mono n) h1
    obtain ⟨b1, b2, b3, b4⟩ := subs_mono n _ _ _ _ _ _ _ h2
    obtain ⟨m1, m2, m3, _⟩ := more_le k t
    obtain ⟨n1, n2⟩ := not_big hb
    dsimp only at *
    exact ⟨by omega, by omega, by omega, fun _ _ => by have := a4 n1 n2; exact b4 this.1 this.2⟩
def cRow (pr mr : Nat) : Array Value := #[.int .i64 (pr : Int), .int .i64 (mr : Int)]
/-- what the document's Get hands back -/
def vGetR (base C : Nat) (t : Int) (pr mr : Nat) (x : OpC × Cnt) (v : Value) (w : World) : Prop := (∃ cs : List Value, v = .agg cs.toArray ∧ At w (some base) x.1 cs) ∧ Blk w C 98 (if t = 14 then cRow x.2.parts x.2.multis else cRow pr mr)
def RGetOk (n : Nat) : Prop := ∀ (base R C c p : Nat) (A : Option Addr) (l : List UInt8) (t inn : Int) (pr mr : Nat) (k : Cnt) (w : World), (Lit.int .i32 t).wf = true → RR w base R A c l p 0 → Blk w C 98 (cRow pr mr) → C ≠ R → base ≤ C → k.parts ≤ 1024 → k.multis ≤ 1024 → (t = 14 → pr = k.parts ∧ mr = k.multis ∧ inn = k.depth ∧ k.depth < 8) → l.length - p < n →
  Calls Tryz.prog 62 #[.pointer (some ⟨R, 0, none⟩), .int .i32 t, .int .i64 inn, .pointer (some ⟨C, 0, none⟩)] w (RGot base R C c A l (vGetR w.heap.size C t pr mr) (opWith (gSubs n) t k l p) w)
/-- how subs ends -/
def RSub (base R C c : Nat) (A : Option Addr) (l : List UInt8) (i : Int) (mr : Nat) (r : ((List OpC × Cnt) × Nat) ⊕ (Int × Nat)) (w : World) (e : Ending) (w' : World) : Prop :=
  match r with
  | .inl ((xs, k'), q) => (∃ A' c' Q, e = .returned (.slice A' Q.length c') ∧ Q.map Prod.fst = xs ∧ Q.length ≤ 2048 ∧ FlatSt w.heap.size (.slice A' Q.length c') Q w' ∧ Blk w' C 98 (cRow k'.parts (if i = 22 then mr else k'.multis))) ∧ Kp [R, C] w w' ∧ RR w' base R A c l q 0
  | .inr (er, q) => (∃ A' n' c', e = .returned (.slice A' n' c')) ∧ er ≠ 0 ∧ Kp [R, C] w w' ∧ RR w' base R A c l q er
def RSubsOk (n : Nat) : Prop := ∀ (base R C c p : Nat) (A : Option Addr) (l : List UInt8) (i inn : Int) (mr : Nat) (k : Cnt) (w : World), RR w base R A c l p 0 → Blk w C 98 (cRow k.parts mr) → C ≠ R → base ≤ C → k.parts ≤ 1024 → k.multis ≤ 1024 → mr ≤ 1024 → k.depth ≤ 8 → (i = 22 ∨ mr = k.multis ∧ inn = k.depth) → l.length - p < n →
  Calls Tryz.prog 97 #[.pointer (some ⟨R, 0, none⟩), .int .i32 i, .int .i64 inn, .pointer (some ⟨C, 0, none⟩)] w (RSub base R C c A l i mr (gSubs n i k l p) w)
/-- where the loop of subs stands -/
def SLive (w0 : World) (base R C c : Nat) (A : Option Addr) (l : List UInt8) (i inn : Int) (mr0 d N : Nat) (G : ((List OpC × Cnt) × Nat) ⊕ (Int × Nat)) (Q : List (OpC × List Value)) (k : Cnt) (mr m p : Nat) (v : Value) (w : World) : Prop :=
  RR w base R A c l p 0 ∧ Blk w C 98 (cRow k.parts mr) ∧ Kp [R, C] w0 w ∧ FlatSt w0.heap.size v Q w ∧ Q.length ≤ k.parts + k.multis ∧ k.parts ≤ 1024 ∧ k.multis ≤ 1024 ∧ k.depth = d ∧ ((i = 22 ∧ mr = mr0) ∨ (i ≠ 22 ∧ mr = k.multis ∧ inn = d)) ∧ l.length - p < m ∧ G = pre (Q.map Prod.fst) (gSubs m i k l p)
def SDead (w0 : World) (base R C c : Nat) (A : Option Addr) (l : List UInt8) (G : ((List OpC × Cnt) × Nat) ⊕ (Int × Nat)) (w : World) : Prop :=
  ∃ q er, RR w base R A c l q er ∧ er ≠ 0 ∧ Kp [R, C] w0 w ∧ G = .inr (er, q)
open Classical in
noncomputable def sMeas (R : Nat) (l : List UInt8) (w : World) : Nat := if w.cell? ⟨R, 2, none⟩ = some (.int .i64 0) then (match w.cell? ⟨R, 1, none⟩ with | some (.int _ p) => l.length + 1 - p.toNat | _ => 0) else 0
theorem sMeas_live {w : World} {base R c p : Nat} {A : Option Addr} {l : List UInt8} (h : RR w base R A c l p 0) : sMeas R l w = l.length + 1 - p := by
  obtain ⟨_, c1, c2, _, _⟩ := h.cells
  unfold sMeas
  rw [if_pos c2, c1]
  simp
theorem sMeas_dead {w : World} {base R c p : Nat} {A : Option Addr} {l : List UInt8} {er : Int} (h : RR w base R A c l p er) (he : er ≠ 0) : sMeas R l w = 0 := by
  obtain ⟨_, _, c2, _, _⟩ := h.cells
  unfold sMeas
  rw [if_neg]
  rw [c2]
  intro e
  injection e with e
  injection e with _ e
  exact he e
end Go.Proofs.YtpjjnmdfgcfnmaaGreatDoor
