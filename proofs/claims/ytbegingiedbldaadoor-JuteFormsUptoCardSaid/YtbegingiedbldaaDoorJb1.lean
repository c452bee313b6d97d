/- What was written is read back: plain. -/
import Derived.Test.YtbegingiedbldaaDoorJe2
namespace Go.Proofs.YtbegingiedbldaaDoor
open Go.RowKit

/-- at p stand the bytes d -/
def Atb (l : List UInt8) (p : Nat) (d : List UInt8) : Prop := p + d.length ≤ l.length ∧ (l.drop p).take d.length = d
theorem Atb.left {l : List UInt8} {p : Nat} {d e : List UInt8} (h : Atb l p (d ++ e)) : Atb l p d := by
  obtain ⟨h1, h2⟩ := h
  rw [List.length_append] at h1 h2
  refine ⟨by omega, ?_⟩
  have h3 := congrArg (List.take d.length) h2
  rw [List.take_take, Nat.min_eq_left (Nat.le_add_right _ _), List.take_left] at h3
  exact h3
theorem Atb.right {l : List UInt8} {p : Nat} {d e : List UInt8} (h : Atb l p (d ++ e)) : Atb l (p + d.length) e := by
  obtain ⟨h1, h2⟩ := h
  rw [List.length_append] at h1 h2
  refine ⟨by omega, ?_⟩
  have h3 := congrArg (List.drop d.length) h2
  rw [List.drop_take, List.drop_drop, List.drop_left, Nat.add_sub_cancel_left] at h3
  exact h3
theorem Atb.all (l : List UInt8) : Atb l 0 l := ⟨by omega, by simp⟩
theorem next_atb {l : List UInt8} {p : Nat} {d : List UInt8} (h : Atb l p d) : gNext d.length l p = .inl (d, p + d.length) := by
  unfold gNext
  rw [if_pos h.1, h.2]
theorem num_atb {l : List UInt8} {p : Nat} {d : List UInt8} (h : Atb l p d) : gNum d.length l p = .inl (beNum d, p + d.length) := by
  unfold gNum Rg.map
  rw [next_atb h]
theorem be_back (n k : Nat) : ∀ m, (beBytes n k).foldl (fun n b => n * 256 + b.toNat) m = m * 256 ^ k + n % 256 ^ k := by
  induction k with
  | zero => intro m; simp [beBytes, Nat.mod_one]
  | succ k ih =>
    intro m
    have h1 : n % 256 ^ (k + 1) = n % 256 ^ k + 256 ^ k * (n / 256 ^ k % 256) := Nat.mod_pow_succ
    have h2 : m * 256 ^ (k + 1) = m * 256 * 256 ^ k := by rw [Nat.pow_succ, Nat.mul_assoc, Nat.mul_comm 256]
    have h3 : (UInt8.ofNat (n / 256 ^ k)).toNat = n / 256 ^ k % 256 := UInt8.toNat_ofNat'
    rw [beBytes, List.foldl_cons, ih, h3, h1, h2, Nat.add_mul, Nat.mul_comm (n / 256 ^ k % 256)]
    omega
theorem beNum_back (n k : Nat) : beNum (beBytes n k) = n % 256 ^ k := by
  unfold beNum
  rw [be_back]
  simp
theorem byte_atb {l : List UInt8} {p : Nat} {z : Int} (h : Atb l p (bByte z)) (h0 : 0 ≤ z) (h1 : z < 256) : gByte l p = .inl (z.toNat, p + 1) := by
  have h2 := num_atb h
  rw [show beNum (bByte z) = z.toNat by simp [beNum, bByte]; omega] at h2
  exact h2
theorem bool_atb {l : List UInt8} {p : Nat} {b : Bool} (h : Atb l p (bBool b)) : gBool l p = .inl (b, p + 1) := by
  have h2 : gNum 1 l p = .inl (beNum (bBool b), p + 1) := num_atb h
  unfold gBool
  rw [h2]
  cases b <;> simp [beNum, bBool]
theorem int_atb {l : List UInt8} {p : Nat} {z : Int} (h : Atb l p (bInt z)) : gInt l p = .inl (wrap32 z, p + 4) := by
  have h2 : gNum 4 l p = .inl (beNum (bInt z), p + 4) := by
    have h2 := num_atb h
    rwa [bInt_len] at h2
  unfold gInt Rg.map
  rw [h2]
  have e : wrap32 ((beNum (bInt z) : Nat) : Int) = wrap32 z := by
    have h3 : beNum (bInt z) = u32N z % 256 ^ 4 := beNum_back _ _
    have h4 := u32N_cast z
    rw [h3]
    unfold wrap32
    omega
  simp only [e]
theorem long_atb {l : List UInt8} {p : Nat} {z : Int} (h : Atb l p (bLong z)) : gLong l p = .inl (wrap64 z, p + 8) := by
  have h2 : gNum 8 l p = .inl (beNum (bLong z), p + 8) := by
    have h2 := num_atb h
    rwa [bLong_len] at h2
  unfold gLong Rg.map
  rw [h2]
  have e : wrap64 ((beNum (bLong z) : Nat) : Int) = wrap64 z := by
    have h3 : beNum (bLong z) = u64N z % 256 ^ 8 := beNum_back _ _
    have h4 := u64N_cast z
    rw [h3]
    unfold wrap64
    omega
  simp only [e]
theorem size_atb {l : List UInt8} {p n : Nat} {most : Int} (h : Atb l p (bInt n)) (hn : n ≤ 2147483647) (hm : (n : Int) ≤ most) : gSize most l p = .inl (n, p + 4) := by
  unfold gSize
  rw [int_atb h]
  have e : wrap32 (n : Int) = n := by unfold wrap32; omega
  rw [e]
  dsimp only
  rw [if_neg (by omega)]
  simp
theorem buf_atb {l : List UInt8} {p : Nat} {b : List UInt8} {most : Int} (h : Atb l p (bBuf b)) (hn : b.length ≤ 2147483647) (hm : (b.length : Int) ≤ most) : gBuf most l p = .inl (b, p + 4 + b.length) := by
  unfold bBuf at h
  have h2 := h.right
  rw [bInt_len] at h2
  unfold gBuf
  rw [size_atb h.left hn hm]
  dsimp only
  rw [if_pos h2.1, h2.2]
end Go.Proofs.YtbegingiedbldaaDoor
