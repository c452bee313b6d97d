/- arborref11.Kind, arborref11.Count. (printed by gen_c2.py) -/
import Derived.Test.YtpjjnmdfgcfnmaaGreatDoorOqd
set_option linter.unusedVariables false
set_option linter.unusedSimpArgs false
namespace Go.Proofs.YtpjjnmdfgcfnmaaGreatDoor
open Go.RowKit

set_option maxRecDepth 100000 in
theorem rkind_in : ∀ x ∈ kindL, ∀ w, Calls Tryz.prog 12 #[.int .i32 x.1] w fun e w' => e = .returned (.int .i64 x.2) ∧ w' = w := by
  intro x hx w
  simp only [kindL, List.mem_cons, List.not_mem_nil, or_false] at hx
  rcases hx with rfl | rfl | rfl | rfl | rfl | rfl | rfl | rfl | rfl | rfl | rfl | rfl | rfl | rfl | rfl | rfl | rfl | rfl | rfl | rfl | rfl | rfl | rfl | rfl | rfl | rfl | rfl | rfl
  all_goals
    go_enter Tryz.func12, Tryz.ntmps12
    go_wp2
    go_ret
    exact ⟨rfl, rfl⟩
set_option maxRecDepth 100000 in
theorem rkind_out (t : Int) (h : ∀ x ∈ kindL, ¬ t = x.1) (w : World) : Calls Tryz.prog 12 #[.int .i32 t] w fun e w' => e = .returned (.int .i64 0) ∧ w' = w := by
  simp only [kindL, List.forall_mem_cons, List.not_mem_nil, false_implies, implies_true, and_true] at h
  obtain ⟨h0, h1, h2, h3, h4, h5, h6, h7, h8, h9, h10, h11, h12, h13, h14, h15, h16, h17, h18, h19, h20, h21, h22, h23, h24, h25, h26, h27⟩ := h
  go_enter Tryz.func12, Tryz.ntmps12
  go_wp2
  go_ret
  exact ⟨rfl, rfl⟩
theorem refKind_any (t : Int) (w : World) : Calls Tryz.prog 12 #[.int .i32 t] w fun e w' => e = .returned (.int .i64 (kindN t)) ∧ w' = w := by
  obtain ⟨k, hk⟩ : ∃ k, k = kindN t := ⟨_, rfl⟩
  rw [← hk]
  unfold kindN at hk
  rcases hf : kindL.find? (fun x => x.1 == t) with _ | x
  · rw [hf] at hk
    simp only [Option.map_none, Option.getD_none] at hk
    subst hk
    rw [List.find?_eq_none] at hf
    exact rkind_out t (fun x hx e => hf x hx (by simp [e])) w
  · rw [hf] at hk
    simp only [Option.map_some, Option.getD_some] at hk
    subst hk
    have h1 := List.mem_of_find?_eq_some hf
    have h2 := List.find?_some hf
    have h3 : x.1 = t := by simpa using h2
    rw [← h3]
    exact rkind_in x h1 w

end Go.Proofs.YtpjjnmdfgcfnmaaGreatDoor
/- The document's Fields, has, Many, inner. (printed by gen_c4.py) -/
namespace Go.Proofs.YtpjjnmdfgcfnmaaGreatDoor
open Go.RowKit

def fieldsL : List (Int × List UInt8) := [(1, [112, 100, 97, 102]), (15, [112, 100, 97, 102]), (19, [112, 100, 97, 102]), (21, [112, 100, 97, 102, 108]), (2, [112, 118]), (13, [112, 118]), (5, [112, 100, 118]), (7, [112, 97, 118]), (120, [112, 99]), (121, [112]), (6, [112]), (9, [112]), (103, [112]), (104, [112]), (20, [112]), (14, [115]), (22, [115]), (101, [122, 107]), (-10, [116, 105]), (3, [112, 119]), (4, [112, 119]), (8, [112, 119]), (12, [112, 119]), (106, [112, 102]), (18, [112, 102])]
/-- the letters of a type's fields -/
def fieldsN (t : Int) : List UInt8 := ((fieldsL.find? fun x => x.1 == t).map (·.2)).getD []
set_option maxRecDepth 100000 in
theorem fields_in : ∀ x ∈ fieldsL, ∀ w, Calls Tryz.prog 54 #[.int .i32 x.1] w fun e w' => e = .returned (.string ⟨x.2.toArray⟩) ∧ w' = w := by
  intro x hx w
  simp only [fieldsL, List.mem_cons, List.not_mem_nil, or_false] at hx
  rcases hx with rfl | rfl | rfl | rfl | rfl | rfl | rfl | rfl | rfl | rfl | rfl | rfl | rfl | rfl | rfl | rfl | rfl | rfl | rfl | rfl | rfl | rfl | rfl | rfl | rfl
  all_goals
    go_enter Tryz.func54, Tryz.ntmps54
    go_wp2
    go_ret
    exact ⟨rfl, rfl⟩
set_option maxRecDepth 100000 in
theorem fields_out (t : Int) (h : ∀ x ∈ fieldsL, ¬ t = x.1) (w : World) : Calls Tryz.prog 54 #[.int .i32 t] w fun e w' => e = .returned (.string ⟨#[]⟩) ∧ w' = w := by
  simp only [fieldsL, List.forall_mem_cons, List.not_mem_nil, false_implies, implies_true, and_true] at h
  obtain ⟨h0, h1, h2, h3, h4, h5, h6, h7, h8, h9, h10, h11, h12, h13, h14, h15, h16, h17, h18, h19, h20, h21, h22, h23, h24⟩ := h
  go_enter Tryz.func54, Tryz.ntmps54
  go_wp2
  go_ret
  exact ⟨rfl, rfl⟩
theorem fields_any (t : Int) (w : World) : Calls Tryz.prog 54 #[.int .i32 t] w fun e w' => e = .returned (.string ⟨(fieldsN t).toArray⟩) ∧ w' = w := by
  obtain ⟨k, hk⟩ : ∃ k, k = fieldsN t := ⟨_, rfl⟩
  rw [← hk]
  unfold fieldsN at hk
  rcases hf : fieldsL.find? (fun x => x.1 == t) with _ | x
  · rw [hf] at hk
    simp only [Option.map_none, Option.getD_none] at hk
    subst hk
    rw [List.find?_eq_none] at hf
    exact fields_out t (fun x hx e => hf x hx (by simp [e])) w
  · rw [hf] at hk
    simp only [Option.map_some, Option.getD_some] at hk
    subst hk
    have h1 := List.mem_of_find?_eq_some hf
    have h2 := List.find?_some hf
    have h3 : x.1 = t := by simpa using h2
    rw [← h3]
    exact fields_in x h1 w


def manyN (t : Int) : Bool := t == 3 || t == 4 || t == 6 || t == 8 || t == 12
set_option maxRecDepth 100000 in
theorem refMany_any (t : Int) (w : World) : Calls Tryz.prog 117 #[.int .i32 t] w fun e w' => e = .returned (.bool (manyN t)) ∧ w' = w := by
  unfold manyN
  by_cases h : t = 3 ∨ t = 4 ∨ t = 6 ∨ t = 8 ∨ t = 12
  · rcases h with rfl | rfl | rfl | rfl | rfl
    all_goals
      go_enter Tryz.func117, Tryz.ntmps117
      go_wp2
      go_ret
      exact ⟨rfl, rfl⟩
  · have h3 : ¬ t = 3 := fun e => h (.inl e)
    have h4 : ¬ t = 4 := fun e => h (.inr (.inl e))
    have h6 : ¬ t = 6 := fun e => h (.inr (.inr (.inl e)))
    have h8 : ¬ t = 8 := fun e => h (.inr (.inr (.inr (.inl e))))
    have h12 : ¬ t = 12 := fun e => h (.inr (.inr (.inr (.inr e))))
    have hf : (t == 3 || t == 4 || t == 6 || t == 8 || t == 12) = false := by simp [h3, h4, h6, h8, h12]
    rw [hf]
    clear h hf
    go_enter Tryz.func117, Tryz.ntmps117
    go_wp2
    go_ret
    exact ⟨by simp [h3, h4, h6, h8, h12], rfl⟩
set_option maxRecDepth 100000 in
theorem refInner_any (t i : Int) (w : World) : Calls Tryz.prog 75 #[.int .i32 i, .int .i32 t] w fun e w' => e = .returned (.bool (mayN t i)) ∧ w' = w := by
  by_cases hi : i = 22
  · subst hi
    have hm : mayN t 22 = manyN t := rfl
    rw [hm]
    have HM := Lib.hid (fun W => refMany_any t W)
    generalize manyN t = b at HM ⊢
    clear hm
    go_enter Tryz.func75, Tryz.ntmps75
    go_wp2_with (go_at_call 117; refine (HM.out _).mono ?_; rintro e w2 ⟨rfl, rfl⟩)
    go_ret
    exact ⟨rfl, rfl⟩
  · have hm : mayN t i = (kindN t == 3 || kindN t == 2) := by unfold mayN; rw [if_neg hi]
    rw [hm]
    have HK := Lib.hid (fun W => refKind_any t W)
    generalize kindN t = k at HK ⊢
    clear hm
    by_cases h3 : k = 3
    · subst h3
      go_enter Tryz.func75, Tryz.ntmps75
      go_wp2_with (go_at_call 12; refine (HK.out _).mono ?_; rintro e w2 ⟨rfl, rfl⟩)
      go_ret
      exact ⟨rfl, rfl⟩
    · go_enter Tryz.func75, Tryz.ntmps75
      go_wp2_with (go_at_call 12; refine (HK.out _).mono ?_; rintro e w2 ⟨rfl, rfl⟩)
      go_ret
      exact ⟨by simp [h3], rfl⟩
end Go.Proofs.YtpjjnmdfgcfnmaaGreatDoor
