/- What was written is read back, what was read is written as it was: plain (out of Jb1, Jf1, Jq2 by gen_j1.py). -/
import Derived.Test.YtpjjnmdfgcfnmaaGreatDoorJw
import Derived.Test.YtpjjnmdfgcfnmaaGreatDoorJrb
set_option linter.unusedVariables false
set_option linter.unusedSimpArgs false
namespace Go.Proofs.YtpjjnmdfgcfnmaaGreatDoor
open Go.RowKit

/-- at p stand the bytes d -/
def Atb (l : List UInt8) (p : Nat) (d : List UInt8) : Prop := p + d.length ≤ l.length ∧ (l.drop p).take d.length = d
theorem Atb.left {l : List UInt8} {p : Nat} {d e : List UInt8} (h : Atb l p (d ++ e)) : Atb l p d := by
  obtain ⟨h1, h2⟩ := h
  rw [List.length_append] at h1 h2
  refine ⟨by omega, ?_⟩
  have h3 := congrArg (List.take d.length) h2
  rw [List.take_take, Nat.min_eq_left (Nat.le_add_right _ _), List.take_left] at h3
  exact h3
theorem Atb.right {l : List UInt8} {p : Nat} {d e : List UInt8} (h : Atb l p (d ++ e)) : Atb l (p + d.length) e := by
  obtain ⟨h1, h2⟩ := h
  rw [List.length_append] at h1 h2
  refine ⟨by omega, ?_⟩
  have h3 := congrArg (List.drop d.length) h2
  rw [List.drop_take, List.drop_drop, List.drop_left, Nat.add_sub_cancel_left] at h3
  exact h3
theorem Atb.all (l : List UInt8) : Atb l 0 l := ⟨by omega, by simp⟩
theorem gText_inl {most : Int} {l x : List UInt8} {p q : Nat} (h : gText most l p = .inl (x, q)) : gBuf most l p = .inl (x, q) ∧ Lib.validD x = true := by
  unfold gText at h
  split at h
  · split at h
    · simp only [Sum.inl.injEq, Prod.mk.injEq] at h
      obtain ⟨rfl, rfl⟩ := h
      exact ⟨by assumption, by assumption⟩
    · cases h
  · cases h
theorem Rg.map_inl {α β : Type} {f : α → β} {g : Rg α} {l : List UInt8} {p q : Nat} {y : β} (h : g.map f l p = .inl (y, q)) : ∃ x, g l p = .inl (x, q) ∧ y = f x := by
  unfold Rg.map at h
  split at h
  · rename_i x r hx
    simp only [Sum.inl.injEq, Prod.mk.injEq] at h
    obtain ⟨rfl, rfl⟩ := h
    exact ⟨x, hx, rfl⟩
  · cases h

theorem be_num (d : List UInt8) : ∀ m, beBytes (m * 256 ^ d.length + beNum d) d.length = d := by
  have hc : ∀ (b : UInt8) (d : List UInt8), beNum (b :: d) = b.toNat * 256 ^ d.length + beNum d := by
    intro b d
    have h : ∀ (d : List UInt8) (n : Nat), d.foldl (fun n b => n * 256 + b.toNat) n = n * 256 ^ d.length + beNum d := by
      intro d
      induction d with
      | nil => intro n; simp [beNum]
      | cons a d ih =>
        intro n
        have e1 := ih (n * 256 + a.toNat)
        have e2 := ih a.toNat
        simp only [List.foldl_cons, List.length_cons, beNum, Nat.zero_mul, Nat.zero_add] at e1 e2 ⊢
        rw [e1, e2, Nat.pow_succ, Nat.add_mul, Nat.mul_assoc, Nat.mul_comm 256]
        omega
    have := h d b.toNat
    simp only [beNum, List.foldl_cons, Nat.zero_mul, Nat.zero_add] at this ⊢
    exact this
  induction d with
  | nil => intro m; rfl
  | cons b d ih =>
    intro m
    have hlt := beNum_lt d
    have hp : 0 < 256 ^ d.length := Nat.pow_pos (by decide)
    have e : m * 256 ^ (b :: d).length + beNum (b :: d) = (m * 256 + b.toNat) * 256 ^ d.length + beNum d := by
      rw [hc, List.length_cons, Nat.pow_succ, Nat.add_mul, Nat.mul_assoc, Nat.mul_comm 256]
      omega
    rw [e, List.length_cons]
    simp only [beBytes]
    rw [ih, Nat.mul_comm _ (256 ^ d.length), Nat.mul_add_div hp, Nat.div_eq_of_lt hlt, Nat.add_zero]
    congr 1
    apply UInt8.toNat_inj.1
    rw [UInt8.toNat_ofNat']
    have := b.toNat_lt
    omega
theorem num_back {k : Nat} {l : List UInt8} {p n q : Nat} (h : gNum k l p = .inl (n, q)) : beBytes n k = (l.drop p).take k ∧ q = p + k ∧ q ≤ l.length := by
  obtain ⟨h1, rfl, h3, _⟩ := gNum_inl h
  have hl : ((l.drop p).take k).length = k := by rw [List.length_take, List.length_drop]; omega
  have := be_num ((l.drop p).take k) 0
  rw [hl, Nat.zero_mul, Nat.zero_add] at this
  exact ⟨this, h3, by omega⟩
theorem int_back {l : List UInt8} {p q : Nat} {z : Int} (h : gInt l p = .inl (z, q)) : bInt z = (l.drop p).take 4 ∧ q = p + 4 ∧ q ≤ l.length := by
  unfold gInt at h
  obtain ⟨n, hn, rfl⟩ := Rg.map_inl h
  obtain ⟨h1, h2, h3⟩ := num_back hn
  have hb := (gNum_inl hn).2.2.2
  refine ⟨?_, h2, h3⟩
  have e : u32N (wrap32 (n : Int)) = n := by unfold u32N wrap32; omega
  unfold bInt
  rw [e, h1]
theorem long_back {l : List UInt8} {p q : Nat} {z : Int} (h : gLong l p = .inl (z, q)) : bLong z = (l.drop p).take 8 ∧ q = p + 8 ∧ q ≤ l.length := by
  unfold gLong at h
  obtain ⟨n, hn, rfl⟩ := Rg.map_inl h
  obtain ⟨h1, h2, h3⟩ := num_back hn
  have hb := (gNum_inl hn).2.2.2
  refine ⟨?_, h2, h3⟩
  have e : u64N (wrap64 (n : Int)) = n := by unfold u64N wrap64; rw [IntKind.wrap_u64]; omega
  unfold bLong
  rw [e, h1]
theorem take_two (l : List UInt8) (p a b : Nat) : (l.drop p).take (a + b) = (l.drop p).take a ++ (l.drop (p + a)).take b := by
  rw [List.take_add, List.drop_drop]
theorem buf_back {most : Int} {l x : List UInt8} {p q : Nat} (h : gBuf most l p = .inl (x, q)) : bBuf x = (l.drop p).take (q - p) ∧ p ≤ q ∧ q ≤ l.length := by
  unfold gBuf at h
  split at h
  · rename_i n q' hs
    obtain ⟨_, rfl, _, _, hi⟩ := gSize_inl hs
    obtain ⟨hb, _, _⟩ := int_back hi
    split at h
    · rename_i hle
      simp only [Sum.inl.injEq, Prod.mk.injEq] at h
      obtain ⟨rfl, rfl⟩ := h
      have hl : ((l.drop (p + 4)).take n).length = n := by rw [List.length_take, List.length_drop]; omega
      refine ⟨?_, by omega, by omega⟩
      rw [show p + 4 + n - p = 4 + n by omega, take_two]
      unfold bBuf
      rw [hl, hb]
    · cases h
  · cases h
theorem text_back {most : Int} {l x : List UInt8} {p q : Nat} (h : gText most l p = .inl (x, q)) : bBuf x = (l.drop p).take (q - p) ∧ p ≤ q ∧ q ≤ l.length := buf_back (gText_inl h).1
theorem count_back {most least : Int} {l : List UInt8} {p q n : Nat} (h : gCount most least l p = .inl (n, q)) : bInt n = (l.drop p).take 4 ∧ q = p + 4 ∧ q ≤ l.length := by
  unfold gCount at h
  split at h
  · rename_i n' q' hs
    split at h
    · cases h
    · simp only [Sum.inl.injEq, Prod.mk.injEq] at h
      obtain ⟨rfl, rfl⟩ := h
      exact int_back (gSize_inl hs).2.2.2.2
  · cases h
theorem bind_inl {α β : Type} {f : Rg α} {g : α → Rg β} {l : List UInt8} {p q : Nat} {y : β} (h : f.bind g l p = .inl (y, q)) : ∃ x q1, f l p = .inl (x, q1) ∧ g x l q1 = .inl (y, q) := by
  unfold Rg.bind at h
  rcases hr : f l p with ⟨x, q1⟩ | ⟨e1, q1⟩
  · rw [hr] at h; exact ⟨x, q1, rfl, h⟩
  · rw [hr] at h; cases h
theorem map_inl {α β : Type} {f : α → β} {g : Rg α} {l : List UInt8} {p q : Nat} {y : β} (h : g.map f l p = .inl (y, q)) : ∃ x, g l p = .inl (x, q) ∧ f x = y := by
  unfold Rg.map at h
  rcases hr : g l p with ⟨x, q1⟩ | ⟨e1, q1⟩
  · rw [hr] at h; injection h with h; injection h with h1 h2; subst h1 h2; exact ⟨x, rfl, rfl⟩
  · rw [hr] at h; cases h
/-- what was read is these bytes -/
def Bk (l : List UInt8) (p q : Nat) (d : List UInt8) : Prop := d = (l.drop p).take (q - p) ∧ p ≤ q ∧ q ≤ l.length
theorem Bk.app {l : List UInt8} {p q r : Nat} {d e : List UInt8} (h1 : Bk l p q d) (h2 : Bk l q r e) : Bk l p r (d ++ e) := by
  obtain ⟨rfl, a1, a2⟩ := h1
  obtain ⟨rfl, b1, b2⟩ := h2
  refine ⟨?_, by omega, b2⟩
  rw [show r - p = (q - p) + (r - q) by omega, take_two, show p + (q - p) = q by omega]
theorem Bk.nil (l : List UInt8) (p : Nat) (h : p ≤ l.length) : Bk l p p [] := ⟨by simp, Nat.le_refl _, h⟩
theorem int_bk {l : List UInt8} {p q : Nat} {z : Int} (h : gInt l p = .inl (z, q)) : Bk l p q (bInt z) := by
  obtain ⟨h1, h2, h3⟩ := int_back h
  exact ⟨by rw [h1, h2, Nat.add_sub_cancel_left], by omega, h3⟩
theorem long_bk {l : List UInt8} {p q : Nat} {z : Int} (h : gLong l p = .inl (z, q)) : Bk l p q (bLong z) := by
  obtain ⟨h1, h2, h3⟩ := long_back h
  exact ⟨by rw [h1, h2, Nat.add_sub_cancel_left], by omega, h3⟩
end Go.Proofs.YtpjjnmdfgcfnmaaGreatDoor
/- Readings' errors: none of them is 0. (out of re/XSur by a program) -/
namespace Go.Proofs.YtpjjnmdfgcfnmaaGreatDoor
open Go.RowKit

/-- a reading's errors are none of them 0 -/
def Sure {α : Type} (g : Rg α) : Prop := ∀ l p e q, g l p = .inr (e, q) → e ≠ 0
theorem Sure.bind {α β : Type} {f : Rg α} {g : α → Rg β} (hf : Sure f) (hg : ∀ x, Sure (g x)) : Sure (f.bind g) := fun l p e q h => by
  unfold Rg.bind at h
  rcases hr : f l p with ⟨x, q1⟩ | ⟨e1, q1⟩
  · rw [hr] at h; exact hg x _ _ _ _ h
  · rw [hr] at h; injection h with h; injection h with h1 h2; subst h1; exact hf _ _ _ _ hr
theorem Sure.map {α β : Type} {f : α → β} {g : Rg α} (hg : Sure g) : Sure (g.map f) := fun l p e q h => by
  unfold Rg.map at h
  rcases hr : g l p with ⟨x, q1⟩ | ⟨e1, q1⟩
  · rw [hr] at h; cases h
  · rw [hr] at h; injection h with h; injection h with h1 h2; subst h1; exact hg _ _ _ _ hr
theorem sure_next (k : Nat) : Sure (gNext k) := fun l p e q h => by
  unfold gNext at h
  split at h
  · cases h
  · injection h with h; injection h with h1 _; subst h1; decide
theorem sure_num (k : Nat) : Sure (gNum k) := (sure_next k).map
theorem sure_int : Sure gInt := (sure_num 4).map
theorem sure_long : Sure gLong := (sure_num 8).map
theorem sure_bool : Sure gBool := fun l p e q h => by
  unfold gBool at h
  rcases hr : gNum 1 l p with ⟨x, q1⟩ | ⟨e1, q1⟩
  · rw [hr] at h
    dsimp only at h
    split at h
    · injection h with h; injection h with h1 _; subst h1; decide
    · cases h
  · rw [hr] at h; injection h with h; injection h with h1 _; subst h1; exact sure_num 1 _ _ _ _ hr
theorem sure_size (m : Int) : Sure (gSize m) := fun l p e q h => by
  unfold gSize at h
  rcases hr : gInt l p with ⟨x, q1⟩ | ⟨e1, q1⟩
  · rw [hr] at h
    dsimp only at h
    split at h
    · injection h with h; injection h with h1 _; subst h1; decide
    · cases h
  · rw [hr] at h; injection h with h; injection h with h1 _; subst h1; exact sure_int _ _ _ _ hr
theorem sure_buf (m : Int) : Sure (gBuf m) := fun l p e q h => by
  unfold gBuf at h
  rcases hr : gSize m l p with ⟨x, q1⟩ | ⟨e1, q1⟩
  · rw [hr] at h
    dsimp only at h
    split at h
    · cases h
    · injection h with h; injection h with h1 _; subst h1; decide
  · rw [hr] at h; injection h with h; injection h with h1 _; subst h1; exact sure_size m _ _ _ _ hr
theorem sure_text (m : Int) : Sure (gText m) := fun l p e q h => by
  unfold gText at h
  rcases hr : gBuf m l p with ⟨x, q1⟩ | ⟨e1, q1⟩
  · rw [hr] at h
    dsimp only at h
    split at h
    · cases h
    · injection h with h; injection h with h1 _; subst h1; decide
  · rw [hr] at h; injection h with h; injection h with h1 _; subst h1; exact sure_buf m _ _ _ _ hr
theorem sure_count (m k : Int) : Sure (gCount m k) := fun l p e q h => by
  unfold gCount at h
  rcases hr : gSize m l p with ⟨x, q1⟩ | ⟨e1, q1⟩
  · rw [hr] at h
    dsimp only at h
    split at h
    · injection h with h; injection h with h1 _; subst h1; decide
    · cases h
  · rw [hr] at h; injection h with h; injection h with h1 _; subst h1; exact sure_size m _ _ _ _ hr
theorem Sure.many {α : Type} {g : Rg α} (hg : Sure g) (n : Nat) : Sure (gMany g n) := by
  induction n with
  | zero => intro l p e q h; cases h
  | succ n ih => exact Sure.bind hg fun x => Sure.map ih
theorem Sure.get {α : Type} {g : Rg α} (hg : Sure g) (m k : Int) : Sure (gGet m k g) := Sure.bind (sure_count m k) fun n => hg.many n
/-- the error of a reading of all bytes -/
def allE {α : Type} (l : List UInt8) (r : (α × Nat) ⊕ (Int × Nat)) : Int := match r with | .inl (_, q) => if q < l.length then 21 else 0 | .inr (e, _) => e
def rOf {α : Type} : (α × Nat) ⊕ (Int × Nat) → Nat ⊕ (Int × Nat)
  | .inl (_, q) => .inl q
  | .inr e => .inr e
theorem rAllE_of {α : Type} {g : Rg α} (hg : Sure g) (l : List UInt8) (p : Nat) : rAllE l (rOf (g l p)) = allE l (g l p) := by
  rcases hr : g l p with ⟨x, q⟩ | ⟨e, q⟩
  · unfold rAllE allE rOf rE rAt
    by_cases h : q < l.length <;> simp [h]
  · have h := hg _ _ _ _ hr
    unfold rAllE allE rOf rE rAt
    simp [h]
end Go.Proofs.YtpjjnmdfgcfnmaaGreatDoor
