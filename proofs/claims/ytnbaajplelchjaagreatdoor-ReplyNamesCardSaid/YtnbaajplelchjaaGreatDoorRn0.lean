/- ReplyNames: codes and their names: plain. (printed by gen_n0.py) -/
import Derived.Test.YtnbaajplelchjaaGreatDoorSuw
import Derived.Lib.ItoaNum
import Derived.Lib.ItoaLen
import Derived.Lib.ParseIntBCases
import Derived.Lib.ParseIntBTie
set_option linter.unusedVariables false
set_option linter.unusedSimpArgs false
namespace Go.Proofs.YtnbaajplelchjaaGreatDoor
open Go.RowKit

/-- the codes that have a name of their own -/
def known : List (Int × List UInt8) := [(0, [79, 75]), (-1, [83, 89, 83, 84, 69, 77, 69, 82, 82, 79, 82]), (-2, [73, 78, 67, 79, 78, 83, 73, 83, 84, 69, 78, 67, 89]), (-4, [67, 79, 78, 78, 69, 67, 84, 73, 79, 78, 76, 79, 83, 83]), (-5, [77, 65, 82, 83, 72, 65, 76, 76, 73, 78, 71]), (-6, [85, 78, 73, 77, 80, 76, 69, 77, 69, 78, 84, 69, 68]), (-8, [66, 65, 68, 65, 82, 71, 85, 77, 69, 78, 84, 83]), (-101, [78, 79, 78, 79, 68, 69]), (-102, [78, 79, 65, 85, 84, 72]), (-103, [66, 65, 68, 86, 69, 82, 83, 73, 79, 78]), (-108, [78, 79, 67, 72, 73, 76, 68, 82, 69, 78, 70, 79, 82, 69, 80, 72, 69, 77, 69, 82, 65, 76, 83]), (-110, [78, 79, 68, 69, 69, 88, 73, 83, 84, 83]), (-111, [78, 79, 84, 69, 77, 80, 84, 89]), (-112, [83, 69, 83, 83, 73, 79, 78, 69, 88, 80, 73, 82, 69, 68]), (-114, [73, 78, 86, 65, 76, 73, 68, 65, 67, 76]), (-121, [78, 79, 87, 65, 84, 67, 72, 69, 82]), (-125, [81, 85, 79, 84, 65, 69, 88, 67, 69, 69, 68, 69, 68]), (-127, [66, 85, 83, 89]), (-128, [84, 79, 79, 77, 65, 78, 89, 69, 80, 72, 69, 77, 69, 82, 65, 76, 83])]
def codeText : List UInt8 := [67, 79, 68, 69]
def codeName (c : Int) : List UInt8 := match known.find? (fun x => x.1 == c) with | some x => x.2 | none => codeText ++ Lib.itoa c
def digL (l : List UInt8) : Prop := ∀ b ∈ l, 48 ≤ b.toNat ∧ b.toNat ≤ 57
def valL (l : List UInt8) : Nat := l.foldl (fun n b => n * 10 + (b.toNat - 48)) 0
theorem dec_dig : ∀ u, digL (Lib.decDigits u) ∧ valL (Lib.decDigits u) = u := by
  intro u
  induction u using Nat.strongRecOn with
  | _ u ih =>
    rw [Lib.decDigits]
    by_cases h : u < 10
    · rw [dif_pos h]
      have e : (UInt8.ofNat (48 + u)).toNat = 48 + u := by rw [UInt8.toNat_ofNat']; omega
      refine ⟨fun b hb => ?_, ?_⟩
      · rw [List.mem_singleton.1 hb, e]
        omega
      · show 0 * 10 + ((UInt8.ofNat (48 + u)).toNat - 48) = u
        rw [e]
        omega
    · rw [dif_neg h]
      obtain ⟨a, b⟩ := ih (u / 10) (by omega)
      have e : (UInt8.ofNat (48 + u % 10)).toNat = 48 + u % 10 := by rw [UInt8.toNat_ofNat']; omega
      refine ⟨fun x hx => ?_, ?_⟩
      · rcases List.mem_append.1 hx with hx | hx
        · exact a x hx
        · rw [List.mem_singleton.1 hx, e]
          omega
      · unfold valL at b ⊢
        rw [List.foldl_append, b]
        show u / 10 * 10 + ((UInt8.ofNat (48 + u % 10)).toNat - 48) = u
        rw [e]
        omega
theorem dec_len : ∀ k u, u < 10 ^ (k + 1) → (Lib.decDigits u).length ≤ k + 1 := by
  intro k
  induction k with
  | zero => intro u hu; rw [Lib.decDigits, dif_pos (by simpa using hu)]; simp
  | succ k ih =>
    intro u hu
    rw [Lib.decDigits]
    by_cases h : u < 10
    · rw [dif_pos h]; simp
    · rw [dif_neg h]
      have := ih (u / 10) (Nat.div_lt_of_lt_mul (by rw [Nat.pow_succ, Nat.mul_comm] at hu; exact hu))
      simp; omega
theorem dec_ne (u : Nat) : Lib.decDigits u ≠ [] := by
  rw [Lib.decDigits]
  split <;> simp
theorem fold_ge (l : List UInt8) : ∀ acc : Nat, acc ≤ l.foldl (fun n b => n * 10 + (b.toNat - 48)) acc := by
  induction l with
  | nil => intro acc; exact Nat.le_refl _
  | cons b r ih => intro acc; rw [List.foldl_cons]; exact Nat.le_trans (by omega) (ih _)
theorem parseM_dig (M : Nat) (hM : M < 1844674407370955162) : ∀ (l : List UInt8) (acc : Nat), digL l → l.foldl (fun n b => n * 10 + (b.toNat - 48)) acc ≤ M → Lib.parseUintM M acc l = .ok (l.foldl (fun n b => n * 10 + (b.toNat - 48)) acc) := by
  intro l
  induction l with
  | nil => intro acc _ _; rfl
  | cons b r ih =>
    intro acc hd hle
    rw [List.foldl_cons] at hle ⊢
    have hb := hd b (by simp)
    have h1 := fold_ge r (acc * 10 + (b.toNat - 48))
    rw [Lib.parseUintM, if_pos hb, if_neg (by omega), if_neg (by omega)]
    exact ih _ (fun x hx => hd x (by simp [hx])) hle
theorem parseU_dec (u : Nat) (hu : u ≤ 4294967295) : Lib.parseUintB 32 (Lib.decDigits u) = .ok u := by
  have h := dec_dig u
  unfold Lib.parseUintB
  rw [if_neg (dec_ne u)]
  have h2 := h.2
  unfold valL at h2
  rw [parseM_dig _ (by decide) _ 0 h.1 (by rw [h2]; omega), h2]
theorem parse_itoa (c : Int) (h0 : -2147483648 ≤ c) (h1 : c ≤ 2147483647) : Lib.parseIntB 32 (Lib.itoa c) = .ok c := by
  unfold Lib.itoa
  by_cases hc : c < 0
  · rw [if_pos hc, Lib.parseIntB_minus, parseU_dec _ (by omega)]
    unfold Lib.signedC
    dsimp only
    rw [if_neg (by omega)]
    congr 1
    omega
  · rw [if_neg hc]
    have hd := dec_dig c.toNat
    have hp := parseU_dec c.toNat (by omega)
    rcases hl : Lib.decDigits c.toNat with _ | ⟨b, r⟩
    · exact absurd hl (dec_ne _)
    · rw [hl] at hd hp
      have hb := hd.1 b (by simp)
      rw [Lib.parseIntB_plain 32 b r (by omega) (by omega), hp]
      unfold Lib.signlessC
      dsimp only
      rw [if_neg (by omega)]
      congr 1
      omega
theorem known_range : ∀ x ∈ known, -128 ≤ x.1 ∧ x.1 ≤ 0 := by decide
theorem known_text : ∀ x ∈ known, x.2.take 4 ≠ codeText := by decide
theorem known_inj : ∀ x ∈ known, ∀ y ∈ known, x.2 = y.2 → x = y := by decide
theorem known_keys : ∀ x ∈ known, known.find? (fun y => y.1 == x.1) = some x := by decide
theorem known_len : ∀ x ∈ known, x.2.length ≤ 23 := by decide
theorem codeName_in {x : Int × List UInt8} (h : x ∈ known) : codeName x.1 = x.2 := by unfold codeName; rw [known_keys x h]
/-- a name is a known one, or is told by the number -/
theorem codeName_or (c : Int) : (∃ x ∈ known, x.1 = c ∧ codeName c = x.2) ∨ ((∀ x ∈ known, x.1 ≠ c) ∧ codeName c = codeText ++ Lib.itoa c) := by
  have he : codeName c = match known.find? (fun x => x.1 == c) with | some x => x.2 | none => codeText ++ Lib.itoa c := rfl
  rcases hf : known.find? (fun x => x.1 == c) with _ | x
  · rw [hf] at he
    refine .inr ⟨fun x hx e => ?_, he⟩
    have := List.find?_eq_none.1 hf x hx
    simp [e] at this
  · have h1 := List.mem_of_find?_eq_some hf
    have h2 := List.find?_some hf
    rw [hf] at he
    exact .inl ⟨x, h1, by simpa using h2, he⟩
theorem codeName_inj {c d : Int} (c0 : -2147483648 ≤ c) (c1 : c ≤ 2147483647) (d0 : -2147483648 ≤ d) (d1 : d ≤ 2147483647) (h : codeName c = codeName d) : c = d := by
  rcases codeName_or c with ⟨x, hx, rfl, hc⟩ | ⟨_, hc⟩
  · rcases codeName_or d with ⟨y, hy, rfl, hd⟩ | ⟨_, hd⟩
    · rw [known_inj x hx y hy (by rw [← hc, ← hd, h])]
    · exact absurd (show x.2.take 4 = codeText by rw [← hc, h, hd]; rfl) (known_text x hx)
  · rcases codeName_or d with ⟨y, hy, rfl, hd⟩ | ⟨_, hd⟩
    · exact absurd (show y.2.take 4 = codeText by rw [← hd, ← h, hc]; rfl) (known_text y hy)
    · have e : Lib.itoa c = Lib.itoa d := List.append_cancel_left (by rw [← hc, ← hd, h])
      have h1 := parse_itoa c c0 c1
      rw [e, parse_itoa d d0 d1] at h1
      injection h1 with h1
      exact h1.symm
theorem itoa_len (c : Int) (h0 : -2147483648 ≤ c) (h1 : c ≤ 2147483647) : 1 ≤ (Lib.itoa c).length ∧ (Lib.itoa c).length ≤ 11 := by
  unfold Lib.itoa
  by_cases hc : c < 0
  · rw [if_pos hc]
    have := dec_len 9 c.natAbs (by omega)
    simp
    omega
  · rw [if_neg hc]
    have := dec_len 9 c.toNat (by omega)
    have h2 : (Lib.decDigits c.toNat).length ≠ 0 := fun e => dec_ne _ (List.eq_nil_of_length_eq_zero e)
    omega
theorem codeName_len (c : Int) (h0 : -2147483648 ≤ c) (h1 : c ≤ 2147483647) : (codeName c).length ≤ 23 := by
  rcases codeName_or c with ⟨x, hx, rfl, hc⟩ | ⟨_, hc⟩
  · rw [hc]; exact known_len x hx
  · rw [hc, List.length_append]
    have := itoa_len c h0 h1
    show 4 + _ ≤ _
    omega
/-- what a name reads as -/
def Spec (s : List UInt8) (r : Int × Bool) : Prop := (∃ c : Int, (-2147483648 ≤ c ∧ c ≤ 2147483647) ∧ codeName c = s ∧ r = (c, true)) ∨ ((∀ c : Int, -2147483648 ≤ c → c ≤ 2147483647 → codeName c ≠ s) ∧ r = (0, false))
theorem Spec.one {s : List UInt8} {r q : Int × Bool} (h : Spec s r) (h' : Spec s q) : r = q := by
  rcases h with ⟨c, ⟨c0, c1⟩, hc, rfl⟩ | ⟨hn, rfl⟩
  · rcases h' with ⟨d, ⟨d0, d1⟩, hd, rfl⟩ | ⟨hn, rfl⟩
    · rw [codeName_inj c0 c1 d0 d1 (hc.trans hd.symm)]
    · exact absurd hc (hn c c0 c1)
  · rcases h' with ⟨d, ⟨d0, d1⟩, hd, rfl⟩ | ⟨_, rfl⟩
    · exact absurd hd (hn d d0 d1)
    · rfl
theorem Spec.yes {c : Int} (h0 : -2147483648 ≤ c) (h1 : c ≤ 2147483647) : Spec (codeName c) (c, true) := .inl ⟨c, ⟨h0, h1⟩, rfl, rfl⟩
/-- a text that no known code has, and that is a code's name -/
theorem name_num {s : List UInt8} {c : Int} (hk : ∀ x ∈ known, x.2 ≠ s) (h : codeName c = s) : s = codeText ++ Lib.itoa c := by
  rcases codeName_or c with ⟨x, hx, rfl, hc⟩ | ⟨_, hc⟩
  · exact absurd (hc.symm.trans h) (hk x hx)
  · rw [← h, hc]
/-- the program: no such code where the text is not a number's -/
theorem Spec.no_num {s : List UInt8} (hk : ∀ x ∈ known, x.2 ≠ s) (h : ¬ (4 < s.length ∧ s.take 4 = codeText)) : Spec s (0, false) := by
  refine .inr ⟨fun c c0 c1 hc => h ?_, rfl⟩
  rw [name_num hk hc]
  have := itoa_len c c0 c1
  refine ⟨?_, rfl⟩
  rw [List.length_append]
  show 4 < 4 + _
  omega
theorem Spec.no_parse {s : List UInt8} (hk : ∀ x ∈ known, x.2 ≠ s) (h : ∀ v, Lib.parseIntB 32 (s.drop 4) = .ok v → codeName v ≠ s) : Spec s (0, false) := by
  refine .inr ⟨fun c c0 c1 hc => h c ?_ hc, rfl⟩
  rw [name_num hk hc]
  exact parse_itoa c c0 c1
theorem Spec.parse {s : List UInt8} {v : Int} (h : Lib.parseIntB 32 (s.drop 4) = .ok v) (hv : codeName v = s) : Spec s (v, true) := by
  obtain ⟨a, b⟩ := Lib.parseIntB_bounds h
  exact .inl ⟨v, ⟨by simpa using a, by have : v < 2147483648 := by simpa using b
                                       omega⟩, hv, rfl⟩
/-- the document: the digits behind the sign -/
def signed (neg : Bool) (n : Nat) : Int := if neg then -(n : Int) else n
def minus (s : List UInt8) : Bool := s.getD 4 0 == 45
def from_ (s : List UInt8) : Nat := if minus s then 5 else 4
theorem num_digits {s : List UInt8} {c : Int} (hk : ∀ x ∈ known, x.2 ≠ s) (h : codeName c = s) : digL (s.drop (from_ s)) ∧ signed (minus s) (valL (s.drop (from_ s))) = c := by
  have hs := name_num hk h
  by_cases hc : c < 0
  · have e : s = codeText ++ 45 :: Lib.decDigits c.natAbs := by rw [hs]; unfold Lib.itoa; rw [if_pos hc]
    have hm : minus s = true := by rw [e]; rfl
    have hf : from_ s = 5 := by unfold from_; rw [hm]; rfl
    have hd := dec_dig c.natAbs
    rw [hf, hm, e]
    show digL (Lib.decDigits c.natAbs) ∧ signed true (valL (Lib.decDigits c.natAbs)) = c
    refine ⟨hd.1, ?_⟩
    rw [hd.2]
    unfold signed
    rw [if_pos rfl]
    omega
  · have e : s = codeText ++ Lib.decDigits c.toNat := by rw [hs]; unfold Lib.itoa; rw [if_neg hc]
    have hd := dec_dig c.toNat
    have hm : minus s = false := by
      rcases hl : Lib.decDigits c.toNat with _ | ⟨b, r⟩
      · exact absurd hl (dec_ne _)
      · rw [hl] at hd e
        have hb := hd.1 b (by simp)
        rw [e]
        show (b == 45) = false
        simp only [beq_eq_false_iff_ne, ne_eq]
        intro hbe
        rw [hbe] at hb
        exact absurd hb.1 (by decide)
    have hf : from_ s = 4 := by unfold from_; rw [hm]; rfl
    rw [hf, hm, e]
    show digL (Lib.decDigits c.toNat) ∧ signed false (valL (Lib.decDigits c.toNat)) = c
    refine ⟨hd.1, ?_⟩
    rw [hd.2]
    unfold signed
    rw [if_neg (by simp)]
    omega
/-- none of the codes looked through -/
theorem far_known {s : List UInt8} (h : ∀ c : Int, -200 ≤ c → c ≤ 0 → codeName c ≠ s) : ∀ x ∈ known, x.2 ≠ s := fun x hx e => by
  have := known_range x hx
  exact h x.1 (by omega) (by omega) ((codeName_in hx).trans e)
theorem Spec.no_text {s : List UInt8} (hk : ∀ x ∈ known, x.2 ≠ s) (h : s.length < 5 ∨ 15 < s.length ∨ s.take 4 ≠ codeText) : Spec s (0, false) := by
  refine .inr ⟨fun c c0 c1 hc => ?_, rfl⟩
  have e := name_num hk hc
  have hl := itoa_len c c0 c1
  have h4 : s.length = 4 + (Lib.itoa c).length := by rw [e, List.length_append]; rfl
  rcases h with h | h | h
  · omega
  · omega
  · exact h (by rw [e]; rfl)
theorem Spec.no_digit {s : List UInt8} (hk : ∀ x ∈ known, x.2 ≠ s) (h : ¬ digL (s.drop (from_ s))) : Spec s (0, false) :=
  .inr ⟨fun _ _ _ hc => h (num_digits hk hc).1, rfl⟩
theorem Spec.no_code {s : List UInt8} (hk : ∀ x ∈ known, x.2 ≠ s) (h : -2147483648 ≤ signed (minus s) (valL (s.drop (from_ s))) → signed (minus s) (valL (s.drop (from_ s))) ≤ 2147483647 → codeName (signed (minus s) (valL (s.drop (from_ s)))) ≠ s) : Spec s (0, false) :=
  .inr ⟨fun c c0 c1 hc => by
    have e := (num_digits hk hc).2
    rw [e] at h
    exact h c0 c1 hc, rfl⟩
theorem val_take (l : List UInt8) (k : Nat) (h : k < l.length) : valL (l.take (k + 1)) = valL (l.take k) * 10 + (l[k].toNat - 48) := by
  unfold valL
  rw [List.take_succ_eq_append_getElem h, List.foldl_append]
  rfl
theorem val_lt (l : List UInt8) (h : digL l) : valL l < 10 ^ l.length := by
  have : ∀ n, ∀ l : List UInt8, l.length = n → digL l → valL l < 10 ^ n := by
    intro n
    induction n with
    | zero => intro l hl _; rw [List.eq_nil_of_length_eq_zero hl]; decide
    | succ n ih =>
      intro l hl hd
      have h1 := ih (l.take n) (by rw [List.length_take]; omega) (fun b hb => hd b (List.mem_of_mem_take hb))
      have h2 := val_take l n (by omega)
      rw [List.take_of_length_le (by omega)] at h2
      have hb := hd (l[n]'(by omega)) (List.getElem_mem _)
      rw [h2, Nat.pow_succ]
      omega
  exact this _ l rfl h
end Go.Proofs.YtnbaajplelchjaaGreatDoor
