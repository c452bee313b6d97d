/- A Stat's text tells it apart: plain. -/
import Derived.Test.YtaojjjcaofhmcaaDoorSb4
set_option linter.unusedVariables false
set_option linter.unusedSimpArgs false
namespace Go.Proofs.YtaojjjcaofhmcaaDoor
open Go.RowKit

theorem hexC_inj : ∀ a b : Fin 16, hexC a.val = hexC b.val → a = b := by decide +kernel
theorem hexC_nl : ∀ a : Fin 16, hexC a.val ≠ 10 := by decide +kernel
theorem hexS_pos (u : Nat) : 1 ≤ (hexS u).length := by
  rw [hexS]
  split
  · simp
  · simp
theorem hexC_eq {a b : Nat} (ha : a < 16) (hb : b < 16) (h : hexC a = hexC b) : a = b := by
  have := hexC_inj ⟨a, ha⟩ ⟨b, hb⟩ h
  exact congrArg Fin.val this
theorem hexS_inj : ∀ u v : Nat, hexS u = hexS v → u = v := by
  intro u
  induction u using Nat.strongRecOn with
  | ind u ih =>
    intro v h
    by_cases hu : u < 16
    · by_cases hv : v < 16
      · rw [hexS_small hu, hexS_small hv] at h
        injection h with h _
        exact hexC_eq hu hv h
      · exfalso
        rw [hexS_small hu, hexS_big hv] at h
        have h1 := congrArg List.length h
        have h2 := hexS_pos (v / 16)
        rw [List.length_append] at h1
        simp only [List.length_cons, List.length_nil] at h1
        omega
    · by_cases hv : v < 16
      · exfalso
        rw [hexS_big hu, hexS_small hv] at h
        have h1 := congrArg List.length h
        have h2 := hexS_pos (u / 16)
        rw [List.length_append] at h1
        simp only [List.length_cons, List.length_nil] at h1
        omega
      · rw [hexS_big hu, hexS_big hv] at h
        obtain ⟨h1, h2⟩ := List.append_inj' h rfl
        injection h2 with h2 _
        have e1 := ih (u / 16) (by omega) (v / 16) h1
        have e2 := hexC_eq (Nat.mod_lt u (by decide)) (Nat.mod_lt v (by decide)) h2
        omega
theorem hexS_nl : ∀ u : Nat, (10 : UInt8) ∉ hexS u := by
  intro u
  induction u using Nat.strongRecOn with
  | ind u ih =>
    by_cases hu : u < 16
    · rw [hexS_small hu]
      intro h
      rw [List.mem_singleton] at h
      exact hexC_nl ⟨u, hu⟩ h.symm
    · rw [hexS_big hu]
      intro h
      rcases List.mem_append.1 h with h | h
      · exact ih (u / 16) (by omega) h
      · rw [List.mem_singleton] at h
        exact hexC_nl ⟨u % 16, Nat.mod_lt u (by decide)⟩ h.symm
theorem dec_small {u : Nat} (h : u < 10) : Lib.decDigits u = [UInt8.ofNat (48 + u)] := by rw [Lib.decDigits, dif_pos h]
theorem dec_big {u : Nat} (h : ¬ u < 10) : Lib.decDigits u = Lib.decDigits (u / 10) ++ [UInt8.ofNat (48 + u % 10)] := by rw [Lib.decDigits, dif_neg h]
theorem dec_pos (u : Nat) : 1 ≤ (Lib.decDigits u).length := by
  rw [Lib.decDigits]
  split
  · simp
  · simp
theorem digit_eq {a b : Nat} (ha : a < 10) (hb : b < 10) (h : UInt8.ofNat (48 + a) = UInt8.ofNat (48 + b)) : a = b := by
  have := congrArg UInt8.toNat h
  rw [UInt8.toNat_ofNat', UInt8.toNat_ofNat'] at this
  omega
theorem digit_ne {a : Nat} (ha : a < 10) (c : UInt8) (hc : c.toNat < 48) : UInt8.ofNat (48 + a) ≠ c := by
  intro h
  have := congrArg UInt8.toNat h
  rw [UInt8.toNat_ofNat'] at this
  omega
theorem dec_inj : ∀ u v : Nat, Lib.decDigits u = Lib.decDigits v → u = v := by
  intro u
  induction u using Nat.strongRecOn with
  | ind u ih =>
    intro v h
    by_cases hu : u < 10
    · by_cases hv : v < 10
      · rw [dec_small hu, dec_small hv] at h
        injection h with h _
        exact digit_eq hu hv h
      · exfalso
        rw [dec_small hu, dec_big hv] at h
        have h1 := congrArg List.length h
        have h2 := dec_pos (v / 10)
        rw [List.length_append] at h1
        simp only [List.length_cons, List.length_nil] at h1
        omega
    · by_cases hv : v < 10
      · exfalso
        rw [dec_big hu, dec_small hv] at h
        have h1 := congrArg List.length h
        have h2 := dec_pos (u / 10)
        rw [List.length_append] at h1
        simp only [List.length_cons, List.length_nil] at h1
        omega
      · rw [dec_big hu, dec_big hv] at h
        obtain ⟨h1, h2⟩ := List.append_inj' h rfl
        injection h2 with h2 _
        have e1 := ih (u / 10) (by omega) (v / 10) h1
        have e2 := digit_eq (Nat.mod_lt u (by decide)) (Nat.mod_lt v (by decide)) h2
        omega
theorem dec_no (c : UInt8) (hc : c.toNat < 48) : ∀ u : Nat, c ∉ Lib.decDigits u := by
  intro u
  induction u using Nat.strongRecOn with
  | ind u ih =>
    by_cases hu : u < 10
    · rw [dec_small hu]
      intro h
      rw [List.mem_singleton] at h
      exact digit_ne hu c hc h.symm
    · rw [dec_big hu]
      intro h
      rcases List.mem_append.1 h with h | h
      · exact ih (u / 10) (by omega) h
      · rw [List.mem_singleton] at h
        exact digit_ne (Nat.mod_lt u (by decide)) c hc h.symm
theorem itoa_nl (x : Int) : (10 : UInt8) ∉ Lib.itoa x := by
  unfold Lib.itoa
  split
  · intro h
    rcases List.mem_cons.1 h with h | h
    · exact absurd h (by decide)
    · exact dec_no 10 (by decide) _ h
  · exact dec_no 10 (by decide) _
theorem itoa_one {x y : Int} (h : Lib.itoa x = Lib.itoa y) : x = y := by
  have hm : ∀ (u v : Nat), 45 :: Lib.decDigits u = Lib.decDigits v → False := fun u v e => dec_no 45 (by decide) v (by rw [← e]; exact List.mem_cons_self ..)
  unfold Lib.itoa at h
  split at h
  · split at h
    · injection h with _ h
      have := dec_inj _ _ h
      omega
    · exact (hm _ _ h).elim
  · split at h
    · exact (hm _ _ h.symm).elim
    · have := dec_inj _ _ h
      omega
theorem cut_line : ∀ {x y r s : List UInt8}, (10 : UInt8) ∉ x → (10 : UInt8) ∉ y → x ++ ([10] ++ r) = y ++ ([10] ++ s) → x = y ∧ r = s
  | [], [], r, s, _, _, h => by simpa using h
  | [], b :: y, r, s, _, hy, h => by
    simp only [List.nil_append, List.cons_append, List.cons.injEq] at h
    exact (hy (by rw [← h.1]; exact List.mem_cons_self ..)).elim
  | a :: x, [], r, s, hx, _, h => by
    simp only [List.nil_append, List.cons_append, List.cons.injEq] at h
    exact (hx (by rw [h.1]; exact List.mem_cons_self ..)).elim
  | a :: x, b :: y, r, s, hx, hy, h => by
    simp only [List.cons_append, List.cons.injEq] at h
    obtain ⟨rfl, h⟩ := h
    obtain ⟨h1, h2⟩ := cut_line (fun e => hx (List.mem_cons_of_mem _ e)) (fun e => hy (List.mem_cons_of_mem _ e)) h
    exact ⟨by rw [h1], h2⟩
theorem hexL_cut {k : ByteArray} {x y : Int} {r s : List UInt8} (h : hexL k x ++ r = hexL k y ++ s) (hx : -9223372036854775808 ≤ x ∧ x ≤ 9223372036854775807) (hy : -9223372036854775808 ≤ y ∧ y ≤ 9223372036854775807) : x = y ∧ r = s := by
  unfold hexL at h
  simp only [List.append_assoc] at h
  have h := List.append_cancel_left (List.append_cancel_left h)
  obtain ⟨h1, h2⟩ := cut_line (hexS_nl _) (hexS_nl _) h
  have h3 := hexS_inj _ _ h1
  have e1 := u64N_cast x
  have e2 := u64N_cast y
  exact ⟨by omega, h2⟩
theorem decL_cut {k : ByteArray} {x y : Int} {r s : List UInt8} (h : decL k x ++ r = decL k y ++ s) : x = y ∧ r = s := by
  unfold decL at h
  simp only [List.append_assoc] at h
  have h := List.append_cancel_left (List.append_cancel_left h)
  obtain ⟨h1, h2⟩ := cut_line (itoa_nl _) (itoa_nl _) h
  exact ⟨itoa_one h1, h2⟩
/-- a text tells Stats apart -/
theorem text_one {a0 a1 a2 a3 a4 a5 a6 a7 a8 a9 a10 b0 b1 b2 b3 b4 b5 b6 b7 b8 b9 b10 : Int} (h : textB a0 a1 a2 a3 a4 a5 a6 a7 a8 a9 a10 = textB b0 b1 b2 b3 b4 b5 b6 b7 b8 b9 b10)
    (r0 : -9223372036854775808 ≤ a0 ∧ a0 ≤ 9223372036854775807) (r1 : -9223372036854775808 ≤ a1 ∧ a1 ≤ 9223372036854775807) (r7 : -9223372036854775808 ≤ a7 ∧ a7 ≤ 9223372036854775807) (r10 : -9223372036854775808 ≤ a10 ∧ a10 ≤ 9223372036854775807)
    (s0 : -9223372036854775808 ≤ b0 ∧ b0 ≤ 9223372036854775807) (s1 : -9223372036854775808 ≤ b1 ∧ b1 ≤ 9223372036854775807) (s7 : -9223372036854775808 ≤ b7 ∧ b7 ≤ 9223372036854775807) (s10 : -9223372036854775808 ≤ b10 ∧ b10 ≤ 9223372036854775807) :
    a0 = b0 ∧ a1 = b1 ∧ a2 = b2 ∧ a3 = b3 ∧ a4 = b4 ∧ a5 = b5 ∧ a6 = b6 ∧ a7 = b7 ∧ a8 = b8 ∧ a9 = b9 ∧ a10 = b10 := by
  unfold textB at h
  have h := congrArg (· ++ ([] : List UInt8)) h
  simp only [List.append_assoc, List.nil_append] at h
  obtain ⟨e0, h⟩ := hexL_cut h r0 s0
  obtain ⟨e2, h⟩ := decL_cut h
  obtain ⟨e1, h⟩ := hexL_cut h r1 s1
  obtain ⟨e3, h⟩ := decL_cut h
  obtain ⟨e10, h⟩ := hexL_cut h r10 s10
  obtain ⟨e5, h⟩ := decL_cut h
  obtain ⟨e4, h⟩ := decL_cut h
  obtain ⟨e6, h⟩ := decL_cut h
  obtain ⟨e7, h⟩ := hexL_cut h r7 s7
  obtain ⟨e8, h⟩ := decL_cut h
  obtain ⟨e9, _⟩ := decL_cut h
  exact ⟨e0, e1, e2, e3, e4, e5, e6, e7, e8, e9, e10⟩
end Go.Proofs.YtaojjjcaofhmcaaDoor
