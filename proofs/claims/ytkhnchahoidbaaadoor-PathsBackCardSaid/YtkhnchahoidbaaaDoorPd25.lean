/- The law PathsOrders: plain laws of the order and of who is under whom; the walk. -/
import Derived.Test.YtkhnchahoidbaaaDoorPd24
namespace Go.Proofs.YtkhnchahoidbaaaDoor
open Go.RowKit

theorem cmp_neg : ∀ A B : List UInt8, Lib.compareBytes B A = -Lib.compareBytes A B
  | [], [] => rfl
  | [], _ :: _ => rfl
  | _ :: _, [] => rfl
  | a :: A, b :: B => by
    unfold Lib.compareBytes
    by_cases h1 : a < b
    · have h2 : ¬ b < a := fun h => UInt8.lt_irrefl a (UInt8.lt_trans h1 h)
      rw [if_neg h2, if_pos h1, if_pos h1]
      rfl
    · by_cases h2 : b < a
      · rw [if_pos h2, if_neg h1, if_pos h2]
      · rw [if_neg h2, if_neg h1, if_neg h1, if_neg h2]
        exact cmp_neg A B
theorem cmp_range : ∀ A B : List UInt8, -1 ≤ Lib.compareBytes A B ∧ Lib.compareBytes A B ≤ 1
  | [], [] => by decide
  | [], _ :: _ => by simp [Lib.compareBytes]
  | _ :: _, [] => by simp [Lib.compareBytes]
  | a :: A, b :: B => by
    unfold Lib.compareBytes
    split
    · decide
    · split
      · decide
      · exact cmp_range A B
theorem byte_eq {a b : UInt8} (h1 : ¬ a < b) (h2 : ¬ b < a) : a = b := by
  rw [UInt8.lt_iff_toNat_lt] at h1 h2
  exact UInt8.toNat_inj.1 (by omega)
theorem cmp_zero : ∀ A B : List UInt8, Lib.compareBytes A B = 0 ↔ A = B
  | [], [] => by simp [Lib.compareBytes]
  | [], _ :: _ => by simp [Lib.compareBytes]
  | _ :: _, [] => by simp [Lib.compareBytes]
  | a :: A, b :: B => by
    unfold Lib.compareBytes
    by_cases h1 : a < b
    · rw [if_pos h1]
      constructor
      · intro h; simp at h
      · intro h
        injection h with h _
        subst h
        exact absurd h1 (UInt8.lt_irrefl a)
    · rw [if_neg h1]
      by_cases h2 : b < a
      · rw [if_pos h2]
        constructor
        · intro h; simp at h
        · intro h
          injection h with h _
          subst h
          exact absurd h2 (UInt8.lt_irrefl a)
      · rw [if_neg h2, cmp_zero A B]
        have := byte_eq h1 h2
        subst this
        simp
theorem cmp_trans : ∀ A B C : List UInt8, Lib.compareBytes A B ≤ 0 → Lib.compareBytes B C ≤ 0 → Lib.compareBytes A C ≤ 0 ∧ (Lib.compareBytes A B < 0 → Lib.compareBytes A C < 0)
  | [], [], C, _, h => by
    refine ⟨h, fun h' => ?_⟩
    simp [Lib.compareBytes] at h'
  | [], b :: B, [], _, h => by simp [Lib.compareBytes] at h
  | [], b :: B, c :: C, _, _ => by simp [Lib.compareBytes]
  | a :: A, [], C, h, _ => by simp [Lib.compareBytes] at h
  | a :: A, b :: B, [], _, h => by simp [Lib.compareBytes] at h
  | a :: A, b :: B, c :: C, h1, h2 => by
    unfold Lib.compareBytes at h1 h2 ⊢
    by_cases p1 : a < b
    · by_cases p2 : b < c
      · have := UInt8.lt_trans p1 p2
        rw [if_pos this]
        exact ⟨by decide, fun _ => by decide⟩
      · by_cases p3 : c < b
        · rw [if_neg p2, if_pos p3] at h2
          simp at h2
        · have := byte_eq p2 p3
          subst this
          rw [if_pos p1]
          exact ⟨by decide, fun _ => by decide⟩
    · by_cases p4 : b < a
      · rw [if_neg p1, if_pos p4] at h1
        simp at h1
      · have := byte_eq p1 p4
        subst this
        rw [if_neg p1, if_neg p4] at h1
        by_cases p2 : a < c
        · rw [if_pos p2]
          exact ⟨by decide, fun _ => by decide⟩
        · by_cases p3 : c < a
          · rw [if_neg p2, if_pos p3] at h2
            simp at h2
          · rw [if_neg p2, if_neg p3] at h2 ⊢
            rw [if_neg p1, if_neg p4]
            exact cmp_trans A B C h1 h2
theorem cmp_prefix : ∀ A B : List UInt8, A <+: B → Lib.compareBytes A B ≤ 0
  | [], [], _ => by decide
  | [], _ :: _, _ => by simp [Lib.compareBytes]
  | a :: A, [], h => by
    have := h.length_le
    simp at this
  | a :: A, b :: B, h => by
    obtain ⟨t, ht⟩ := h
    injection ht with h1 h2
    subst h1
    unfold Lib.compareBytes
    rw [if_neg (UInt8.lt_irrefl a), if_neg (UInt8.lt_irrefl a)]
    exact cmp_prefix A B ⟨t, h2⟩

theorem size_append' (a b : ByteArray) : (a ++ b).data.toList = a.data.toList ++ b.data.toList := by simp
theorem und_iff (a p : ByteArray) : undB a p = true ↔ (a.data.toList = p.data.toList ∨ a.data.toList = [47] ∨ (a.data.toList ++ [47]) <+: p.data.toList) := by
  unfold undB Lib.hasPrefix
  rw [Lib.toList_data, Lib.toList_data]
  simp only [Bool.or_eq_true, beq_iff_eq, List.isPrefixOf_iff_prefix]
  rw [show (a ++ ⟨#[47]⟩ : ByteArray).data.toList = a.data.toList ++ [47] by simp, or_assoc]
theorem ok_head {b : ByteArray} (h : okB b = true) : [47] <+: b.data.toList := by
  obtain ⟨x, _, y, _⟩ := ok_parts ((okB_iff b).1 h)
  rw [list_head b x, y]
  exact ⟨_, rfl⟩
theorem under_prefix {a b : ByteArray} (h : underB a b = true) : okB a = true ∧ okB b = true ∧ a.data.toList <+: b.data.toList := by
  unfold underB at h
  simp only [Bool.and_eq_true] at h
  obtain ⟨⟨h1, h2⟩, h3⟩ := h
  refine ⟨h1, h2, ?_⟩
  rcases (und_iff a b).1 h3 with h | h | h
  · rw [h]
    exact List.prefix_refl _
  · rw [h]
    exact ok_head h2
  · exact (List.prefix_append _ _).trans h
theorem under_mk {a b : ByteArray} (h1 : okB a = true) (h2 : okB b = true) (h3 : a.data.toList = b.data.toList ∨ a.data.toList = [47] ∨ (a.data.toList ++ [47]) <+: b.data.toList) : underB a b = true := by
  unfold underB
  rw [h1, h2, (und_iff a b).2 h3]
  rfl
theorem under_eq {a b : ByteArray} (h : underB a b = true) : underB b a = (a.toList == b.toList) := by
  obtain ⟨h1, h2, h3⟩ := under_prefix h
  rw [Lib.toList_data, Lib.toList_data, Bool.eq_iff_iff, beq_iff_eq]
  constructor
  · intro h'
    obtain ⟨_, _, h4⟩ := under_prefix h'
    exact h3.eq_of_length_le h4.length_le
  · intro e
    exact under_mk h2 h1 (.inl e.symm)
theorem under_trans {a b c : ByteArray} (h : underB a b = true) (h' : underB b c = true) : underB a c = true := by
  obtain ⟨a1, b1, _⟩ := under_prefix h
  obtain ⟨_, c1, q⟩ := under_prefix h'
  refine under_mk a1 c1 ?_
  unfold underB at h h'
  simp only [Bool.and_eq_true] at h h'
  rcases (und_iff a b).1 h.2 with e | e | e
  · rw [e]
    exact (und_iff b c).1 h'.2
  · exact .inr (.inl e)
  · rcases (und_iff b c).1 h'.2 with f | f | f
    · rw [← f]
      exact .inr (.inr e)
    · exfalso
      have := e.length_le
      rw [f, List.length_append] at this
      have x := (ok_parts ((okB_iff a).1 a1)).1
      rw [Lib.size_eq] at x
      simp only [List.length_cons, List.length_nil] at this
      omega
    · exact .inr (.inr (e.trans q))

set_option maxRecDepth 100000 in
set_option maxHeartbeats 2000000 in
theorem orders_law (a b c : ByteArray) (ha : a.size ≤ 140737488355327) (hb : b.size ≤ 140737488355327) {w : World} (hE : Env w) :
    Calls Tryd.prog 6 #[.string a, .string b, .string c] w fun e w' => e = .returned (.bool true) ∧ Below w.heap.size w w' := by
  have HA := Lib.hid (alive_any hE)
  have O1 : Hid (∀ W, Calls Tryd.prog 26 #[.string a, .string b] W fun e w' => e = .returned (.int .i64 (ordB a b)) ∧ w' = W) := fun W => (order_any a b W).mono fun _ _ ⟨he, h⟩ => ⟨he, h.symm⟩
  have O2 : Hid (∀ W, Calls Tryd.prog 26 #[.string b, .string c] W fun e w' => e = .returned (.int .i64 (ordB b c)) ∧ w' = W) := fun W => (order_any b c W).mono fun _ _ ⟨he, h⟩ => ⟨he, h.symm⟩
  have O3 : Hid (∀ W, Calls Tryd.prog 26 #[.string a, .string c] W fun e w' => e = .returned (.int .i64 (ordB a c)) ∧ w' = W) := fun W => (order_any a c W).mono fun _ _ ⟨he, h⟩ => ⟨he, h.symm⟩
  have O4 : Hid (∀ W, Calls Tryd.prog 26 #[.string b, .string a] W fun e w' => e = .returned (.int .i64 (-ordB a b)) ∧ w' = W) := fun W => by
    have := order_any b a W
    unfold ordB at this ⊢
    rw [cmp_neg a.data.toList b.data.toList] at this
    exact this.mono fun _ _ ⟨he, h⟩ => ⟨he, h.symm⟩
  have U1 : Hid (∀ W, Below w.heap.size w W → Calls Tryd.prog 27 #[.string a, .string b] W fun e w' => e = .returned (.bool (underB a b)) ∧ Below w.heap.size w w') := fun W hB => e_under hE hB a b (by omega)
  have U2 : Hid (∀ W, Below w.heap.size w W → Calls Tryd.prog 27 #[.string b, .string a] W fun e w' => e = .returned (.bool (underB b a)) ∧ Below w.heap.size w w') := fun W hB => e_under hE hB b a (by omega)
  have U3 : Hid (∀ W, Below w.heap.size w W → Calls Tryd.prog 27 #[.string b, .string c] W fun e w' => e = .returned (.bool (underB b c)) ∧ Below w.heap.size w w') := fun W hB => e_under hE hB b c (by omega)
  have U4 : Hid (∀ W, Below w.heap.size w W → Calls Tryd.prog 27 #[.string a, .string c] W fun e w' => e = .returned (.bool (underB a c)) ∧ Below w.heap.size w w') := fun W hB => e_under hE hB a c (by omega)
  have hr := cmp_range a.data.toList b.data.toList
  have hz : (a.toList == b.toList) = (ordB a b == 0) := by
    rw [Lib.toList_data, Lib.toList_data, Bool.eq_iff_iff, beq_iff_eq, beq_iff_eq]
    exact (cmp_zero _ _).symm
  have ht : ordB a b ≤ 0 → ordB b c ≤ 0 → ordB a c ≤ 0 ∧ (ordB a b < 0 → ordB a c < 0) := cmp_trans a.data.toList b.data.toList c.data.toList
  have hu : underB a b = true → ordB a b ≤ 0 ∧ underB b a = (ordB a b == 0) := fun h => ⟨cmp_prefix _ _ (under_prefix h).2.2, by rw [under_eq h, hz]⟩
  have hut : underB a b = true → underB b c = true → underB a c = true := under_trans
  have hr : -1 ≤ ordB a b ∧ ordB a b ≤ 1 := hr
  have hr3 : -1 ≤ ordB a c ∧ ordB a c ≤ 1 := cmp_range _ _
  have hr2 : -1 ≤ ordB b c ∧ ordB b c ≤ 1 := cmp_range _ _
  clear hE
  generalize ordB a b = x at *
  generalize ordB b c = y at *
  generalize ordB a c = z at *
  generalize underB a b = u1 at *
  generalize underB b a = u2 at *
  generalize underB b c = u3 at *
  generalize underB a c = u4 at *
  have ht' : ¬ (x ≤ 0 ∧ y ≤ 0 ∧ 0 < z) ∧ ¬ (x < 0 ∧ y ≤ 0 ∧ 0 ≤ z) := by
    constructor
    · rintro ⟨h1, h2, h3⟩
      have := (ht h1 h2).1
      omega
    · rintro ⟨h1, h2, h3⟩
      have := (ht (by omega) h2).2 h1
      omega
  clear ht
  obtain ⟨t1, t2⟩ := ht'
  cases u1 with
  | false =>
    clear hu hut
    go_enter Tryd.func6, Tryd.ntmps6
    go_wp2_with (first
      | (go_at_call 25; refine HA.out.mono ?_; rintro e w1 ⟨rfl, hb1⟩)
      | (go_at_call 26; have F0 := F3; refine (O4.out _).mono ?_; rintro e w2 ⟨rfl, rfl⟩)
      | (go_at_call 26; have F0 := F2; refine (O3.out _).mono ?_; rintro e w2 ⟨rfl, rfl⟩; have F3 := trivial)
      | (go_at_call 26; have F0 := F1; refine (O2.out _).mono ?_; rintro e w2 ⟨rfl, rfl⟩; have F2 := trivial)
      | (go_at_call 26; refine (O1.out _).mono ?_; rintro e w2 ⟨rfl, rfl⟩; have F1 := trivial)
      | (go_at_call 27; refine (U1.out _ (by first | assumption | (refine below_drewN' ?_ _; assumption))).mono ?_; rintro e w5 ⟨rfl, hb5⟩))
    all_goals
      go_ret
      exact ⟨(by first | rfl | simp), (by first | assumption | (refine below_drewN' ?_ _; assumption))⟩
  | true =>
    obtain ⟨hx0, rfl⟩ := hu rfl
    cases u3 with
    | false =>
      clear hut
      go_enter Tryd.func6, Tryd.ntmps6
      go_wp2_with (first
        | (go_at_call 25; refine HA.out.mono ?_; rintro e w1 ⟨rfl, hb1⟩)
        | (go_at_call 26; have F0 := F3; refine (O4.out _).mono ?_; rintro e w2 ⟨rfl, rfl⟩)
        | (go_at_call 26; have F0 := F2; refine (O3.out _).mono ?_; rintro e w2 ⟨rfl, rfl⟩; have F3 := trivial)
        | (go_at_call 26; have F0 := F1; refine (O2.out _).mono ?_; rintro e w2 ⟨rfl, rfl⟩; have F2 := trivial)
        | (go_at_call 26; refine (O1.out _).mono ?_; rintro e w2 ⟨rfl, rfl⟩; have F1 := trivial)
        | (go_at_call 27; have F0 := G4; refine (U4.out _ (by first | assumption | (refine below_drewN' ?_ _; assumption))).mono ?_; rintro e w9 ⟨rfl, hb9⟩)
        | (go_at_call 27; have F0 := G3; refine (U3.out _ (by first | assumption | (refine below_drewN' ?_ _; assumption))).mono ?_; rintro e w8 ⟨rfl, hb8⟩; have G4 := trivial)
        | (go_at_call 27; have F0 := G2; refine (U1.out _ (by first | assumption | (refine below_drewN' ?_ _; assumption))).mono ?_; rintro e w7 ⟨rfl, hb7⟩; have G3 := trivial)
        | (go_at_call 27; have F0 := G1; refine (U2.out _ (by first | assumption | (refine below_drewN' ?_ _; assumption))).mono ?_; rintro e w6 ⟨rfl, hb6⟩; have G2 := trivial)
        | (go_at_call 27; refine (U1.out _ (by first | assumption | (refine below_drewN' ?_ _; assumption))).mono ?_; rintro e w5 ⟨rfl, hb5⟩; have G1 := trivial))
      all_goals
        go_ret
        exact ⟨(by first | rfl | simp), (by first | assumption | (refine below_drewN' ?_ _; assumption))⟩
    | true =>
      obtain rfl : u4 = true := hut rfl rfl
      clear hut
      go_enter Tryd.func6, Tryd.ntmps6
      go_wp2_with (first
        | (go_at_call 25; refine HA.out.mono ?_; rintro e w1 ⟨rfl, hb1⟩)
        | (go_at_call 26; have F0 := F3; refine (O4.out _).mono ?_; rintro e w2 ⟨rfl, rfl⟩)
        | (go_at_call 26; have F0 := F2; refine (O3.out _).mono ?_; rintro e w2 ⟨rfl, rfl⟩; have F3 := trivial)
        | (go_at_call 26; have F0 := F1; refine (O2.out _).mono ?_; rintro e w2 ⟨rfl, rfl⟩; have F2 := trivial)
        | (go_at_call 26; refine (O1.out _).mono ?_; rintro e w2 ⟨rfl, rfl⟩; have F1 := trivial)
        | (go_at_call 27; have F0 := G4; refine (U4.out _ (by first | assumption | (refine below_drewN' ?_ _; assumption))).mono ?_; rintro e w9 ⟨rfl, hb9⟩)
        | (go_at_call 27; have F0 := G3; refine (U3.out _ (by first | assumption | (refine below_drewN' ?_ _; assumption))).mono ?_; rintro e w8 ⟨rfl, hb8⟩; have G4 := trivial)
        | (go_at_call 27; have F0 := G2; refine (U1.out _ (by first | assumption | (refine below_drewN' ?_ _; assumption))).mono ?_; rintro e w7 ⟨rfl, hb7⟩; have G3 := trivial)
        | (go_at_call 27; have F0 := G1; refine (U2.out _ (by first | assumption | (refine below_drewN' ?_ _; assumption))).mono ?_; rintro e w6 ⟨rfl, hb6⟩; have G2 := trivial)
        | (go_at_call 27; refine (U1.out _ (by first | assumption | (refine below_drewN' ?_ _; assumption))).mono ?_; rintro e w5 ⟨rfl, hb5⟩; have G1 := trivial))
      all_goals
        go_ret
        exact ⟨(by first | rfl | simp), (by first | assumption | (refine below_drewN' ?_ _; assumption))⟩

theorem pathsOrders_walk {H : Type} (a : ByteArray) (_ : a.size ≤ maxLen) (b : ByteArray) (_ : b.size ≤ maxLen) (c : ByteArray) (_ : c.size ≤ maxLen) (W : World) (hsz : (DataW.weightsEach Tryd.prog ([9, 9, 9] : List TypeId) ([DataW.lit (.string a.data.toList), DataW.lit (.string b.data.toList), DataW.lit (.string c.data.toList)] : List (DataW H))).all (· ≤ reachBytes) = true) (hsh : W.ShapedOpen Tryd.prog)
    (hlaid : laidMetH Tryd.prog Rows.pathsOrdersRow.laid W) :
    Calls Tryd.prog 6 #[.string a, .string b, .string c] W fun e w' => e = .returned (.bool true) ∧ Below W.heap.size W w' := by
  have h := sized_string (j := 0) hsz rfl rfl
  have h' := sized_string (j := 1) hsz rfl rfl
  rw [← Lib.size_eq] at h h'
  unfold reachBytes at h h'
  exact orders_law a b c (by omega) (by omega) (env_of hlaid hsh rfl rfl rfl)
end Go.Proofs.YtkhnchahoidbaaaDoor
