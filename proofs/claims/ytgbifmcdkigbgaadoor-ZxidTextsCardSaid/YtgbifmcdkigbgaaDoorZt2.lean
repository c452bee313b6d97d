/- A zxid's text: plain. -/
import Derived.Test.YtgbifmcdkigbgaaDoorZt1
set_option linter.unusedVariables false
set_option linter.unusedSimpArgs false
namespace Go.Proofs.YtgbifmcdkigbgaaDoor
open Go.RowKit

theorem hexV_hexC : ∀ d : Fin 16, hexV (hexC d.val) = some d.val := by decide +kernel
theorem hx16_hexS : ∀ n, n ≤ 9223372036854775807 → ∀ r, hx16 0 (hexS n ++ r) = hx16 n r := by
  intro n
  induction n using Nat.strongRecOn with
  | ind n ih =>
    intro hn r
    by_cases h : n < 16
    · rw [hexS_small h, List.singleton_append, hx16, hexV_hexC ⟨n, h⟩]
      dsimp only
      rw [if_pos (by omega), Nat.zero_mul, Nat.zero_add]
    · rw [hexS_big h, List.append_assoc, ih (n / 16) (by omega) (by omega), List.singleton_append, hx16, hexV_hexC ⟨n % 16, Nat.mod_lt _ (by decide)⟩]
      dsimp only
      rw [if_pos (by omega), show n / 16 * 16 + n % 16 = n by omega]
theorem hx16_le : ∀ (l : List UInt8) (acc n : Nat), acc ≤ 9223372036854775807 → hx16 acc l = some n → n ≤ 9223372036854775807
  | [], acc, n, ha, h => by rw [hx16] at h; injection h with h; omega
  | c :: r, acc, n, ha, h => by
    rw [hx16] at h
    split at h
    · split at h
      · rename_i hc
        exact hx16_le r _ n hc.2 h
      · cases h
    · cases h
/-- the document's digit -/
def refD (c : UInt8) : Option Nat := if 48 ≤ c.toNat ∧ c.toNat ≤ 57 then some (c.toNat - 48) else if 97 ≤ c.toNat ∧ c.toNat ≤ 102 then some (c.toNat - 87) else none
def rx16 : Nat → List UInt8 → Option Nat
  | acc, [] => some acc
  | acc, c :: r => match refD c with
    | some d => rx16 (acc * 16 + d) r
    | none => none
theorem refD_hexC : ∀ d : Fin 16, refD (hexC d.val) = some d.val := by decide +kernel
theorem refD_lt {c : UInt8} {d : Nat} (h : refD c = some d) : d < 16 := by
  unfold refD at h
  split at h
  · injection h with h; omega
  · split at h
    · injection h with h; omega
    · cases h
theorem rx16_hexS : ∀ n, ∀ r, rx16 0 (hexS n ++ r) = rx16 n r := by
  intro n
  induction n using Nat.strongRecOn with
  | ind n ih =>
    intro r
    by_cases h : n < 16
    · rw [hexS_small h, List.singleton_append, rx16, refD_hexC ⟨n, h⟩]
      dsimp only
      rw [Nat.zero_mul, Nat.zero_add]
    · rw [hexS_big h, List.append_assoc, ih (n / 16) (by omega), List.singleton_append, rx16, refD_hexC ⟨n % 16, Nat.mod_lt _ (by decide)⟩]
      dsimp only
      rw [show n / 16 * 16 + n % 16 = n by omega]
theorem hexS_len16 : ∀ k u, u < 16 ^ (k + 1) → (hexS u).length ≤ k + 1 := by
  intro k
  induction k with
  | zero => intro u hu; rw [hexS_small (by simpa using hu)]; simp
  | succ k ih =>
    intro u hu
    by_cases h : u < 16
    · rw [hexS_small h]; simp
    · rw [hexS_big h, List.length_append]
      have := ih (u / 16) (by rw [Nat.pow_succ] at hu; exact Nat.div_lt_of_lt_mul (by omega))
      simp only [List.length_cons, List.length_nil]
      omega
theorem hexS_lens (n : Nat) (h : n ≤ 9223372036854775807) : 1 ≤ (hexS n).length ∧ (hexS n).length ≤ 16 := by
  refine ⟨hexS_pos n, hexS_len16 15 n ?_⟩
  have e : (16 : Nat) ^ (15 + 1) = 18446744073709551616 := by decide
  rw [e]
  omega
/-- a zxid's text -/
def zText (n : Nat) : List UInt8 := 48 :: 120 :: hexS n
theorem zText_one {n m : Nat} (h : zText n = zText m) : n = m := by
  unfold zText at h
  injection h with _ h
  injection h with _ h
  exact hexS_inj _ _ h
/-- a text read: its zxid, or the error -/
noncomputable def parseZ (l : List UInt8) : Int × Int := open Classical in if h : ∃ n : Nat, n ≤ 9223372036854775807 ∧ l = zText n then ((h.choose : Int), 0) else (0, 200)
theorem parseZ_yes {l : List UInt8} {n : Nat} (hn : n ≤ 9223372036854775807) (h : l = zText n) : parseZ l = ((n : Int), 0) := by
  have hx : ∃ n : Nat, n ≤ 9223372036854775807 ∧ l = zText n := ⟨n, hn, h⟩
  unfold parseZ
  rw [dif_pos hx]
  have := zText_one (hx.choose_spec.2.symm.trans h)
  rw [this]
theorem parseZ_no {l : List UInt8} (h : ∀ n : Nat, n ≤ 9223372036854775807 → l ≠ zText n) : parseZ l = (0, 200) := by
  unfold parseZ
  rw [dif_neg (fun ⟨n, h1, h2⟩ => h n h1 h2)]
/-- by the program: what stands behind '0x' is read; its text is the text -/
theorem parseZ_hx {l t : List UInt8} (ht : ∀ r, l = 48 :: 120 :: r → t = r) : parseZ l = match hx16 0 t with
    | some n => if zText n = l then ((n : Int), 0) else (0, 200)
    | none => (0, 200) := by
  have key : ∀ n, n ≤ 9223372036854775807 → l = zText n → hx16 0 t = some n := fun n hn h => by
    rw [ht _ h, ← List.append_nil (hexS n), hx16_hexS n hn []]
    rfl
  rcases hr : hx16 0 t with _ | n
  · dsimp only
    refine parseZ_no fun n hn h => ?_
    rw [key n hn h] at hr
    cases hr
  · dsimp only
    by_cases h : zText n = l
    · rw [if_pos h]
      exact parseZ_yes (hx16_le _ _ _ (by omega) hr) h.symm
    · rw [if_neg h]
      refine parseZ_no fun m hm hl => ?_
      rw [key m hm hl] at hr
      injection hr with hr
      subst hr
      exact h hl.symm
/-- by the document -/
theorem parseZ_rx {l r : List UInt8} (hl : l = 48 :: 120 :: r) : parseZ l = match rx16 0 r with
    | some n => if n ≤ 9223372036854775807 ∧ zText n = l then ((n : Int), 0) else (0, 200)
    | none => (0, 200) := by
  have key : ∀ n, l = zText n → rx16 0 r = some n := fun n h => by
    rw [hl] at h
    unfold zText at h
    injection h with _ h
    injection h with _ h
    rw [h, ← List.append_nil (hexS n), rx16_hexS n []]
    rfl
  rcases hr : rx16 0 r with _ | n
  · dsimp only
    refine parseZ_no fun n hn h => ?_
    rw [key n h] at hr
    cases hr
  · dsimp only
    by_cases h : n ≤ 9223372036854775807 ∧ zText n = l
    · rw [if_pos h]
      exact parseZ_yes h.1 h.2.symm
    · rw [if_neg h]
      refine parseZ_no fun m hm h2 => ?_
      rw [key m h2] at hr
      injection hr with hr
      subst hr
      exact h ⟨hm, h2.symm⟩
theorem parseZ_len {l : List UInt8} (h : l.length < 3 ∨ 18 < l.length) : parseZ l = (0, 200) := by
  refine parseZ_no fun n hn e => ?_
  have := hexS_lens n hn
  rw [e] at h
  unfold zText at h
  simp only [List.length_cons] at h
  omega
theorem parseZ_head {l : List UInt8} (h : l.take 2 ≠ [48, 120]) : parseZ l = (0, 200) := by
  refine parseZ_no fun n hn e => h ?_
  rw [e]
  rfl
end Go.Proofs.YtgbifmcdkigbgaaDoor
