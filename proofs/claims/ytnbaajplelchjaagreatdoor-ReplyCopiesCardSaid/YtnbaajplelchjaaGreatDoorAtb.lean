/- What was written is read back, what was read is written as it was: plain (out of Jb1, Jf1, Jq2 by gen_j1.py). -/
import Derived.Test.YtnbaajplelchjaaGreatDoorJw
import Derived.Test.YtnbaajplelchjaaGreatDoorJrb
set_option linter.unusedVariables false
set_option linter.unusedSimpArgs false
namespace Go.Proofs.YtnbaajplelchjaaGreatDoor
open Go.RowKit

/-- at p stand the bytes d -/
def Atb (l : List UInt8) (p : Nat) (d : List UInt8) : Prop := p + d.length ≤ l.length ∧ (l.drop p).take d.length = d
theorem Atb.left {l : List UInt8} {p : Nat} {d e : List UInt8} (h : Atb l p (d ++ e)) : Atb l p d := by
  obtain ⟨h1, h2⟩ := h
  rw [List.length_append] at h1 h2
  refine ⟨by omega, ?_⟩
  have h3 := congrArg (List.take d.length) h2
  rw [List.take_take, Nat.min_eq_left (Nat.le_add_right _ _), List.take_left] at h3
  exact h3
theorem Atb.right {l : List UInt8} {p : Nat} {d e : List UInt8} (h : Atb l p (d ++ e)) : Atb l (p + d.length) e := by
  obtain ⟨h1, h2⟩ := h
  rw [List.length_append] at h1 h2
  refine ⟨by omega, ?_⟩
  have h3 := congrArg (List.drop d.length) h2
  rw [List.drop_take, List.drop_drop, List.drop_left, Nat.add_sub_cancel_left] at h3
  exact h3
theorem Atb.all (l : List UInt8) : Atb l 0 l := ⟨by omega, by simp⟩
theorem next_atb {l : List UInt8} {p : Nat} {d : List UInt8} (h : Atb l p d) : gNext d.length l p = .inl (d, p + d.length) := by
  unfold gNext
  rw [if_pos h.1, h.2]
theorem num_atb {l : List UInt8} {p : Nat} {d : List UInt8} (h : Atb l p d) : gNum d.length l p = .inl (beNum d, p + d.length) := by
  unfold gNum Rg.map
  rw [next_atb h]
theorem be_back (n k : Nat) : ∀ m, (beBytes n k).foldl (fun n b => n * 256 + b.toNat) m = m * 256 ^ k + n % 256 ^ k := by
  induction k with
  | zero => intro m; simp [beBytes, Nat.mod_one]
  | succ k ih =>
    intro m
    have h1 : n % 256 ^ (k + 1) = n % 256 ^ k + 256 ^ k * (n / 256 ^ k % 256) := Nat.mod_pow_succ
    have h2 : m * 256 ^ (k + 1) = m * 256 * 256 ^ k := by rw [Nat.pow_succ, Nat.mul_assoc, Nat.mul_comm 256]
    have h3 : (UInt8.ofNat (n / 256 ^ k)).toNat = n / 256 ^ k % 256 := UInt8.toNat_ofNat'
    rw [beBytes, List.foldl_cons, ih, h3, h1, h2, Nat.add_mul, Nat.mul_comm (n / 256 ^ k % 256)]
    omega
theorem beNum_back (n k : Nat) : beNum (beBytes n k) = n % 256 ^ k := by
  unfold beNum
  rw [be_back]
  simp
theorem byte_atb {l : List UInt8} {p : Nat} {z : Int} (h : Atb l p (bByte z)) (h0 : 0 ≤ z) (h1 : z < 256) : gByte l p = .inl (z.toNat, p + 1) := by
  have h2 := num_atb h
  rw [show beNum (bByte z) = z.toNat by simp [beNum, bByte]; omega] at h2
  exact h2
theorem bool_atb {l : List UInt8} {p : Nat} {b : Bool} (h : Atb l p (bBool b)) : gBool l p = .inl (b, p + 1) := by
  have h2 : gNum 1 l p = .inl (beNum (bBool b), p + 1) := num_atb h
  unfold gBool
  rw [h2]
  cases b <;> simp [beNum, bBool]
theorem int_atb {l : List UInt8} {p : Nat} {z : Int} (h : Atb l p (bInt z)) : gInt l p = .inl (wrap32 z, p + 4) := by
  have h2 : gNum 4 l p = .inl (beNum (bInt z), p + 4) := by
    have h2 := num_atb h
    rwa [bInt_len] at h2
  unfold gInt Rg.map
  rw [h2]
  have e : wrap32 ((beNum (bInt z) : Nat) : Int) = wrap32 z := by
    have h3 : beNum (bInt z) = u32N z % 256 ^ 4 := beNum_back _ _
    have h4 := u32N_cast z
    rw [h3]
    unfold wrap32
    omega
  simp only [e]
theorem long_atb {l : List UInt8} {p : Nat} {z : Int} (h : Atb l p (bLong z)) : gLong l p = .inl (wrap64 z, p + 8) := by
  have h2 : gNum 8 l p = .inl (beNum (bLong z), p + 8) := by
    have h2 := num_atb h
    rwa [bLong_len] at h2
  unfold gLong Rg.map
  rw [h2]
  have e : wrap64 ((beNum (bLong z) : Nat) : Int) = wrap64 z := by
    have h3 : beNum (bLong z) = u64N z % 256 ^ 8 := beNum_back _ _
    have h4 := u64N_cast z
    rw [h3]
    unfold wrap64
    omega
  simp only [e]
theorem size_atb {l : List UInt8} {p n : Nat} {most : Int} (h : Atb l p (bInt n)) (hn : n ≤ 2147483647) (hm : (n : Int) ≤ most) : gSize most l p = .inl (n, p + 4) := by
  unfold gSize
  rw [int_atb h]
  have e : wrap32 (n : Int) = n := by unfold wrap32; omega
  rw [e]
  dsimp only
  rw [if_neg (by omega)]
  simp
theorem buf_atb {l : List UInt8} {p : Nat} {b : List UInt8} {most : Int} (h : Atb l p (bBuf b)) (hn : b.length ≤ 2147483647) (hm : (b.length : Int) ≤ most) : gBuf most l p = .inl (b, p + 4 + b.length) := by
  unfold bBuf at h
  have h2 := h.right
  rw [bInt_len] at h2
  unfold gBuf
  rw [size_atb h.left hn hm]
  dsimp only
  rw [if_pos h2.1, h2.2]
theorem gText_inl {most : Int} {l x : List UInt8} {p q : Nat} (h : gText most l p = .inl (x, q)) : gBuf most l p = .inl (x, q) ∧ Lib.validD x = true := by
  unfold gText at h
  split at h
  · split at h
    · simp only [Sum.inl.injEq, Prod.mk.injEq] at h
      obtain ⟨rfl, rfl⟩ := h
      exact ⟨by assumption, by assumption⟩
    · cases h
  · cases h
theorem Rg.map_inl {α β : Type} {f : α → β} {g : Rg α} {l : List UInt8} {p q : Nat} {y : β} (h : g.map f l p = .inl (y, q)) : ∃ x, g l p = .inl (x, q) ∧ y = f x := by
  unfold Rg.map at h
  split at h
  · rename_i x r hx
    simp only [Sum.inl.injEq, Prod.mk.injEq] at h
    obtain ⟨rfl, rfl⟩ := h
    exact ⟨x, hx, rfl⟩
  · cases h

theorem be_num (d : List UInt8) : ∀ m, beBytes (m * 256 ^ d.length + beNum d) d.length = d := by
  have hc : ∀ (b : UInt8) (d : List UInt8), beNum (b :: d) = b.toNat * 256 ^ d.length + beNum d := by
    intro b d
    have h : ∀ (d : List UInt8) (n : Nat), d.foldl (fun n b => n * 256 + b.toNat) n = n * 256 ^ d.length + beNum d := by
      intro d
      induction d with
      | nil => intro n; simp [beNum]
      | cons a d ih =>
        intro n
        have e1 := ih (n * 256 + a.toNat)
        have e2 := ih a.toNat
        simp only [List.foldl_cons, List.length_cons, beNum, Nat.zero_mul, Nat.zero_add] at e1 e2 ⊢
        rw [e1, e2, Nat.pow_succ, Nat.add_mul, Nat.mul_assoc, Nat.mul_comm 256]
        omega
    have := h d b.toNat
    simp only [beNum, List.foldl_cons, Nat.zero_mul, Nat.zero_add] at this ⊢
    exact this
  induction d with
  | nil => intro m; rfl
  | cons b d ih =>
    intro m
    have hlt := beNum_lt d
    have hp : 0 < 256 ^ d.length := Nat.pow_pos (by decide)
    have e : m * 256 ^ (b :: d).length + beNum (b :: d) = (m * 256 + b.toNat) * 256 ^ d.length + beNum d := by
      rw [hc, List.length_cons, Nat.pow_succ, Nat.add_mul, Nat.mul_assoc, Nat.mul_comm 256]
      omega
    rw [e, List.length_cons]
    simp only [beBytes]
    rw [ih, Nat.mul_comm _ (256 ^ d.length), Nat.mul_add_div hp, Nat.div_eq_of_lt hlt, Nat.add_zero]
    congr 1
    apply UInt8.toNat_inj.1
    rw [UInt8.toNat_ofNat']
    have := b.toNat_lt
    omega
theorem num_back {k : Nat} {l : List UInt8} {p n q : Nat} (h : gNum k l p = .inl (n, q)) : beBytes n k = (l.drop p).take k ∧ q = p + k ∧ q ≤ l.length := by
  obtain ⟨h1, rfl, h3, _⟩ := gNum_inl h
  have hl : ((l.drop p).take k).length = k := by rw [List.length_take, List.length_drop]; omega
  have := be_num ((l.drop p).take k) 0
  rw [hl, Nat.zero_mul, Nat.zero_add] at this
  exact ⟨this, h3, by omega⟩
theorem int_back {l : List UInt8} {p q : Nat} {z : Int} (h : gInt l p = .inl (z, q)) : bInt z = (l.drop p).take 4 ∧ q = p + 4 ∧ q ≤ l.length := by
  unfold gInt at h
  obtain ⟨n, hn, rfl⟩ := Rg.map_inl h
  obtain ⟨h1, h2, h3⟩ := num_back hn
  have hb := (gNum_inl hn).2.2.2
  refine ⟨?_, h2, h3⟩
  have e : u32N (wrap32 (n : Int)) = n := by unfold u32N wrap32; omega
  unfold bInt
  rw [e, h1]
theorem long_back {l : List UInt8} {p q : Nat} {z : Int} (h : gLong l p = .inl (z, q)) : bLong z = (l.drop p).take 8 ∧ q = p + 8 ∧ q ≤ l.length := by
  unfold gLong at h
  obtain ⟨n, hn, rfl⟩ := Rg.map_inl h
  obtain ⟨h1, h2, h3⟩ := num_back hn
  have hb := (gNum_inl hn).2.2.2
  refine ⟨?_, h2, h3⟩
  have e : u64N (wrap64 (n : Int)) = n := by unfold u64N wrap64; rw [IntKind.wrap_u64]; omega
  unfold bLong
  rw [e, h1]
theorem take_two (l : List UInt8) (p a b : Nat) : (l.drop p).take (a + b) = (l.drop p).take a ++ (l.drop (p + a)).take b := by
  rw [List.take_add, List.drop_drop]
theorem buf_back {most : Int} {l x : List UInt8} {p q : Nat} (h : gBuf most l p = .inl (x, q)) : bBuf x = (l.drop p).take (q - p) ∧ p ≤ q ∧ q ≤ l.length := by
  unfold gBuf at h
  split at h
  · rename_i n q' hs
    obtain ⟨_, rfl, _, _, hi⟩ := gSize_inl hs
    obtain ⟨hb, _, _⟩ := int_back hi
    split at h
    · rename_i hle
      simp only [Sum.inl.injEq, Prod.mk.injEq] at h
      obtain ⟨rfl, rfl⟩ := h
      have hl : ((l.drop (p + 4)).take n).length = n := by rw [List.length_take, List.length_drop]; omega
      refine ⟨?_, by omega, by omega⟩
      rw [show p + 4 + n - p = 4 + n by omega, take_two]
      unfold bBuf
      rw [hl, hb]
    · cases h
  · cases h
theorem text_back {most : Int} {l x : List UInt8} {p q : Nat} (h : gText most l p = .inl (x, q)) : bBuf x = (l.drop p).take (q - p) ∧ p ≤ q ∧ q ≤ l.length := buf_back (gText_inl h).1
theorem count_back {most least : Int} {l : List UInt8} {p q n : Nat} (h : gCount most least l p = .inl (n, q)) : bInt n = (l.drop p).take 4 ∧ q = p + 4 ∧ q ≤ l.length := by
  unfold gCount at h
  split at h
  · rename_i n' q' hs
    split at h
    · cases h
    · simp only [Sum.inl.injEq, Prod.mk.injEq] at h
      obtain ⟨rfl, rfl⟩ := h
      exact int_back (gSize_inl hs).2.2.2.2
  · cases h
theorem bind_inl {α β : Type} {f : Rg α} {g : α → Rg β} {l : List UInt8} {p q : Nat} {y : β} (h : f.bind g l p = .inl (y, q)) : ∃ x q1, f l p = .inl (x, q1) ∧ g x l q1 = .inl (y, q) := by
  unfold Rg.bind at h
  rcases hr : f l p with ⟨x, q1⟩ | ⟨e1, q1⟩
  · rw [hr] at h; exact ⟨x, q1, rfl, h⟩
  · rw [hr] at h; cases h
theorem map_inl {α β : Type} {f : α → β} {g : Rg α} {l : List UInt8} {p q : Nat} {y : β} (h : g.map f l p = .inl (y, q)) : ∃ x, g l p = .inl (x, q) ∧ f x = y := by
  unfold Rg.map at h
  rcases hr : g l p with ⟨x, q1⟩ | ⟨e1, q1⟩
  · rw [hr] at h; injection h with h; injection h with h1 h2; subst h1 h2; exact ⟨x, rfl, rfl⟩
  · rw [hr] at h; cases h
/-- what was read is these bytes -/
def Bk (l : List UInt8) (p q : Nat) (d : List UInt8) : Prop := d = (l.drop p).take (q - p) ∧ p ≤ q ∧ q ≤ l.length
theorem Bk.app {l : List UInt8} {p q r : Nat} {d e : List UInt8} (h1 : Bk l p q d) (h2 : Bk l q r e) : Bk l p r (d ++ e) := by
  obtain ⟨rfl, a1, a2⟩ := h1
  obtain ⟨rfl, b1, b2⟩ := h2
  refine ⟨?_, by omega, b2⟩
  rw [show r - p = (q - p) + (r - q) by omega, take_two, show p + (q - p) = q by omega]
theorem Bk.nil (l : List UInt8) (p : Nat) (h : p ≤ l.length) : Bk l p p [] := ⟨by simp, Nat.le_refl _, h⟩
theorem int_bk {l : List UInt8} {p q : Nat} {z : Int} (h : gInt l p = .inl (z, q)) : Bk l p q (bInt z) := by
  obtain ⟨h1, h2, h3⟩ := int_back h
  exact ⟨by rw [h1, h2, Nat.add_sub_cancel_left], by omega, h3⟩
theorem long_bk {l : List UInt8} {p q : Nat} {z : Int} (h : gLong l p = .inl (z, q)) : Bk l p q (bLong z) := by
  obtain ⟨h1, h2, h3⟩ := long_back h
  exact ⟨by rw [h1, h2, Nat.add_sub_cancel_left], by omega, h3⟩
end Go.Proofs.YtnbaajplelchjaaGreatDoor
