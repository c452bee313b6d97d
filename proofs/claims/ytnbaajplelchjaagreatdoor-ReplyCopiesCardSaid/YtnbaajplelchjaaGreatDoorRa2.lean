/- Copies of lists in new memory: slices.Clone. (printed by gen_ra2.py) -/
import Derived.Test.YtnbaajplelchjaaGreatDoorRa1
set_option linter.unusedVariables false
set_option linter.unusedSimpArgs false
namespace Go.Proofs.YtnbaajplelchjaaGreatDoor
open Go.RowKit

set_option maxRecDepth 100000 in
set_option maxHeartbeats 400000 in
theorem u8sClone_own (A : Option Addr) (n c B : Nat) (xs : List Value) (w : World) (hr : Reads w B 1 A n xs) (h1 : ∀ u ∈ xs, u.oneCell' = true) (hB : B ≤ w.heap.size) (hn : n * 1 ≤ 140737488355328) (hnil : A = none → n = 0 ∧ c = 0) :
    Calls Tryz.prog 83 #[.slice A n c] w fun e w' => ∃ A' c', e = .returned (.slice A' n c') ∧ w'.ownsRow w.heap.size 5 1 (.slice A' n c') n xs ∧ Below w.heap.size w w' := by
  obtain ⟨i0, hi0, hz0, hz1, hz2⟩ := info_parts u8O_info
  rcases A with _ | ad
  · obtain ⟨rfl, rfl⟩ := hnil rfl
    have hx : xs = [] := List.eq_nil_of_length_eq_zero (by simpa using hr.1)
    subst hx
    clear hr h1 hn hnil
    have hq := fun W : World => Lib.run_eql_slice_nil (P := Tryz.prog) W 25 5 none 0 0 0 0 Tryz.underlying25
    go_enter Tryz.func83, Tryz.ntmps83
    go_wp2
    go_ret
    exact ⟨_, _, rfl, World.ownsRow_nil _ _ _ _, Below.refl _ _⟩
  · have HR := Lib.hid hr
    have H1 := Lib.hid h1
    have hq := fun W : World => Lib.run_eql_slice_nil (P := Tryz.prog) W 25 5 (some ad) n c 0 0 Tryz.underlying25
    clear hr h1 hnil
    go_enter Tryz.func83, Tryz.ntmps83
    go_wp2_with (at_builtin; refine wpList_append_any _ rfl (.tmp 5) (.tmp 6) _ rfl w.heap.size 5 i0 _ 1 1 Tryz.underlying25 hi0 hz0 hz1 hz2 rfl (by decide) (.slice (some ⟨w.heap.size, 0, none⟩) 0 0) 0 [] rfl (World.ownsRow_made w #[] 0 (Nat.le_refl _) (by decide) rfl) B (some ad) n c xs rfl (HR.out.alloc hB _) H1.out (by simp only [maxLen]; omega) (by omega) (by simp) ?_; intro v1 w1 hown1 hg1 hat1)
    go_ret
    have hb1 : Below w.heap.size w w1 := ((Below.refl _ _).alloc (Nat.le_refl _) _).grown hg1 (by simp) (fun k hk => by simp [Value.ownBlock] at hk; omega)
    obtain ⟨A', c', rfl⟩ : ∃ A' c', v1 = .slice A' (0 + n) c' := by
      rcases hown1.2 with ⟨rfl, h0⟩ | ⟨g, cap, cur, rfl, _⟩
      · exact ⟨none, 0, by rw [h0]⟩
      · exact ⟨_, _, rfl⟩
    simp only [Nat.zero_add, List.nil_append] at hown1
    exact ⟨A', c', by simp, hown1, hb1⟩
theorem u8sClone_any {w : World} {lo : Option Nat} {s : Sl} {len : Nat} {xs : List Value} (h : SlAt w lo 5 1 1 s len xs) (h1 : ∀ u ∈ xs, u.oneCell' = true) :
    Calls Tryz.prog 83 #[.slice s.A s.n s.c] w fun e w' => ∃ s' : Sl, e = .returned (.slice s'.A s'.n s'.c) ∧ SlAt w' (some w.heap.size) 5 1 1 s' len xs ∧ Below w.heap.size w w' :=
  (u8sClone_own s.A s.n s.c w.heap.size xs w h.reads h1 (Nat.le_refl _) h.reach' h.nil).mono fun _ _ ⟨A', c', h1, h2, h3⟩ => ⟨⟨A', s.n, c'⟩, h1, by rw [h.len]; exact SlAt.of_own h2 h.reach, h3⟩
set_option maxRecDepth 100000 in
set_option maxHeartbeats 400000 in
theorem aclsClone_own (A : Option Addr) (n c B : Nat) (xs : List Value) (w : World) (hr : Reads w B 3 A n xs) (h1 : ∀ u ∈ xs, u.oneCell' = true) (hB : B ≤ w.heap.size) (hn : n * 40 ≤ 140737488355328) (hnil : A = none → n = 0 ∧ c = 0) :
    Calls Tryz.prog 123 #[.slice A n c] w fun e w' => ∃ A' c', e = .returned (.slice A' n c') ∧ w'.ownsRow w.heap.size 115 3 (.slice A' n c') n xs ∧ Below w.heap.size w w' := by
  obtain ⟨i0, hi0, hz0, hz1, hz2⟩ := info_parts acl_info
  rcases A with _ | ad
  · obtain ⟨rfl, rfl⟩ := hnil rfl
    have hx : xs = [] := List.eq_nil_of_length_eq_zero (by simpa using hr.1)
    subst hx
    clear hr h1 hn hnil
    have hq := fun W : World => Lib.run_eql_slice_nil (P := Tryz.prog) W 26 115 none 0 0 0 0 Tryz.underlying26
    go_enter Tryz.func123, Tryz.ntmps123
    go_wp2
    go_ret
    exact ⟨_, _, rfl, World.ownsRow_nil _ _ _ _, Below.refl _ _⟩
  · have HR := Lib.hid hr
    have H1 := Lib.hid h1
    have hq := fun W : World => Lib.run_eql_slice_nil (P := Tryz.prog) W 26 115 (some ad) n c 0 0 Tryz.underlying26
    clear hr h1 hnil
    go_enter Tryz.func123, Tryz.ntmps123
    go_wp2_with (at_builtin; refine wpList_append_any _ rfl (.tmp 5) (.tmp 6) _ rfl w.heap.size 115 i0 _ 3 40 Tryz.underlying26 hi0 hz0 hz1 hz2 rfl (by decide) (.slice (some ⟨w.heap.size, 0, none⟩) 0 0) 0 [] rfl (World.ownsRow_made w #[] 0 (Nat.le_refl _) (by decide) rfl) B (some ad) n c xs rfl (HR.out.alloc hB _) H1.out (by simp only [maxLen]; omega) (by omega) (by simp) ?_; intro v1 w1 hown1 hg1 hat1)
    go_ret
    have hb1 : Below w.heap.size w w1 := ((Below.refl _ _).alloc (Nat.le_refl _) _).grown hg1 (by simp) (fun k hk => by simp [Value.ownBlock] at hk; omega)
    obtain ⟨A', c', rfl⟩ : ∃ A' c', v1 = .slice A' (0 + n) c' := by
      rcases hown1.2 with ⟨rfl, h0⟩ | ⟨g, cap, cur, rfl, _⟩
      · exact ⟨none, 0, by rw [h0]⟩
      · exact ⟨_, _, rfl⟩
    simp only [Nat.zero_add, List.nil_append] at hown1
    exact ⟨A', c', by simp, hown1, hb1⟩
theorem aclsClone_any {w : World} {lo : Option Nat} {s : Sl} {len : Nat} {xs : List Value} (h : SlAt w lo 115 3 40 s len xs) (h1 : ∀ u ∈ xs, u.oneCell' = true) :
    Calls Tryz.prog 123 #[.slice s.A s.n s.c] w fun e w' => ∃ s' : Sl, e = .returned (.slice s'.A s'.n s'.c) ∧ SlAt w' (some w.heap.size) 115 3 40 s' len xs ∧ Below w.heap.size w w' :=
  (aclsClone_own s.A s.n s.c w.heap.size xs w h.reads h1 (Nat.le_refl _) h.reach' h.nil).mono fun _ _ ⟨A', c', h1, h2, h3⟩ => ⟨⟨A', s.n, c'⟩, h1, by rw [h.len]; exact SlAt.of_own h2 h.reach, h3⟩
set_option maxRecDepth 100000 in
set_option maxHeartbeats 400000 in
theorem idsClone_own (A : Option Addr) (n c B : Nat) (xs : List Value) (w : World) (hr : Reads w B 2 A n xs) (h1 : ∀ u ∈ xs, u.oneCell' = true) (hB : B ≤ w.heap.size) (hn : n * 32 ≤ 140737488355328) (hnil : A = none → n = 0 ∧ c = 0) :
    Calls Tryz.prog 125 #[.slice A n c] w fun e w' => ∃ A' c', e = .returned (.slice A' n c') ∧ w'.ownsRow w.heap.size 113 2 (.slice A' n c') n xs ∧ Below w.heap.size w w' := by
  obtain ⟨i0, hi0, hz0, hz1, hz2⟩ := info_parts id_info
  rcases A with _ | ad
  · obtain ⟨rfl, rfl⟩ := hnil rfl
    have hx : xs = [] := List.eq_nil_of_length_eq_zero (by simpa using hr.1)
    subst hx
    clear hr h1 hn hnil
    have hq := fun W : World => Lib.run_eql_slice_nil (P := Tryz.prog) W 28 113 none 0 0 0 0 Tryz.underlying28
    go_enter Tryz.func125, Tryz.ntmps125
    go_wp2
    go_ret
    exact ⟨_, _, rfl, World.ownsRow_nil _ _ _ _, Below.refl _ _⟩
  · have HR := Lib.hid hr
    have H1 := Lib.hid h1
    have hq := fun W : World => Lib.run_eql_slice_nil (P := Tryz.prog) W 28 113 (some ad) n c 0 0 Tryz.underlying28
    clear hr h1 hnil
    go_enter Tryz.func125, Tryz.ntmps125
    go_wp2_with (at_builtin; refine wpList_append_any _ rfl (.tmp 5) (.tmp 6) _ rfl w.heap.size 113 i0 _ 2 32 Tryz.underlying28 hi0 hz0 hz1 hz2 rfl (by decide) (.slice (some ⟨w.heap.size, 0, none⟩) 0 0) 0 [] rfl (World.ownsRow_made w #[] 0 (Nat.le_refl _) (by decide) rfl) B (some ad) n c xs rfl (HR.out.alloc hB _) H1.out (by simp only [maxLen]; omega) (by omega) (by simp) ?_; intro v1 w1 hown1 hg1 hat1)
    go_ret
    have hb1 : Below w.heap.size w w1 := ((Below.refl _ _).alloc (Nat.le_refl _) _).grown hg1 (by simp) (fun k hk => by simp [Value.ownBlock] at hk; omega)
    obtain ⟨A', c', rfl⟩ : ∃ A' c', v1 = .slice A' (0 + n) c' := by
      rcases hown1.2 with ⟨rfl, h0⟩ | ⟨g, cap, cur, rfl, _⟩
      · exact ⟨none, 0, by rw [h0]⟩
      · exact ⟨_, _, rfl⟩
    simp only [Nat.zero_add, List.nil_append] at hown1
    exact ⟨A', c', by simp, hown1, hb1⟩
theorem idsClone_any {w : World} {lo : Option Nat} {s : Sl} {len : Nat} {xs : List Value} (h : SlAt w lo 113 2 32 s len xs) (h1 : ∀ u ∈ xs, u.oneCell' = true) :
    Calls Tryz.prog 125 #[.slice s.A s.n s.c] w fun e w' => ∃ s' : Sl, e = .returned (.slice s'.A s'.n s'.c) ∧ SlAt w' (some w.heap.size) 113 2 32 s' len xs ∧ Below w.heap.size w w' :=
  (idsClone_own s.A s.n s.c w.heap.size xs w h.reads h1 (Nat.le_refl _) h.reach' h.nil).mono fun _ _ ⟨A', c', h1, h2, h3⟩ => ⟨⟨A', s.n, c'⟩, h1, by rw [h.len]; exact SlAt.of_own h2 h.reach, h3⟩
set_option maxRecDepth 100000 in
set_option maxHeartbeats 400000 in
theorem strsClone_own (A : Option Addr) (n c B : Nat) (xs : List Value) (w : World) (hr : Reads w B 1 A n xs) (h1 : ∀ u ∈ xs, u.oneCell' = true) (hB : B ≤ w.heap.size) (hn : n * 16 ≤ 140737488355328) (hnil : A = none → n = 0 ∧ c = 0) :
    Calls Tryz.prog 124 #[.slice A n c] w fun e w' => ∃ A' c', e = .returned (.slice A' n c') ∧ w'.ownsRow w.heap.size 9 1 (.slice A' n c') n xs ∧ Below w.heap.size w w' := by
  obtain ⟨i0, hi0, hz0, hz1, hz2⟩ := info_parts strO_info
  rcases A with _ | ad
  · obtain ⟨rfl, rfl⟩ := hnil rfl
    have hx : xs = [] := List.eq_nil_of_length_eq_zero (by simpa using hr.1)
    subst hx
    clear hr h1 hn hnil
    have hq := fun W : World => Lib.run_eql_slice_nil (P := Tryz.prog) W 27 9 none 0 0 0 0 Tryz.underlying27
    go_enter Tryz.func124, Tryz.ntmps124
    go_wp2
    go_ret
    exact ⟨_, _, rfl, World.ownsRow_nil _ _ _ _, Below.refl _ _⟩
  · have HR := Lib.hid hr
    have H1 := Lib.hid h1
    have hq := fun W : World => Lib.run_eql_slice_nil (P := Tryz.prog) W 27 9 (some ad) n c 0 0 Tryz.underlying27
    clear hr h1 hnil
    go_enter Tryz.func124, Tryz.ntmps124
    go_wp2_with (at_builtin; refine wpList_append_any _ rfl (.tmp 5) (.tmp 6) _ rfl w.heap.size 9 i0 _ 1 16 Tryz.underlying27 hi0 hz0 hz1 hz2 rfl (by decide) (.slice (some ⟨w.heap.size, 0, none⟩) 0 0) 0 [] rfl (World.ownsRow_made w #[] 0 (Nat.le_refl _) (by decide) rfl) B (some ad) n c xs rfl (HR.out.alloc hB _) H1.out (by simp only [maxLen]; omega) (by omega) (by simp) ?_; intro v1 w1 hown1 hg1 hat1)
    go_ret
    have hb1 : Below w.heap.size w w1 := ((Below.refl _ _).alloc (Nat.le_refl _) _).grown hg1 (by simp) (fun k hk => by simp [Value.ownBlock] at hk; omega)
    obtain ⟨A', c', rfl⟩ : ∃ A' c', v1 = .slice A' (0 + n) c' := by
      rcases hown1.2 with ⟨rfl, h0⟩ | ⟨g, cap, cur, rfl, _⟩
      · exact ⟨none, 0, by rw [h0]⟩
      · exact ⟨_, _, rfl⟩
    simp only [Nat.zero_add, List.nil_append] at hown1
    exact ⟨A', c', by simp, hown1, hb1⟩
theorem strsClone_any {w : World} {lo : Option Nat} {s : Sl} {len : Nat} {xs : List Value} (h : SlAt w lo 9 1 16 s len xs) (h1 : ∀ u ∈ xs, u.oneCell' = true) :
    Calls Tryz.prog 124 #[.slice s.A s.n s.c] w fun e w' => ∃ s' : Sl, e = .returned (.slice s'.A s'.n s'.c) ∧ SlAt w' (some w.heap.size) 9 1 16 s' len xs ∧ Below w.heap.size w w' :=
  (strsClone_own s.A s.n s.c w.heap.size xs w h.reads h1 (Nat.le_refl _) h.reach' h.nil).mono fun _ _ ⟨A', c', h1, h2, h3⟩ => ⟨⟨A', s.n, c'⟩, h1, by rw [h.len]; exact SlAt.of_own h2 h.reach, h3⟩
set_option maxRecDepth 100000 in
set_option maxHeartbeats 400000 in
theorem ressClone_own (A : Option Addr) (n c B : Nat) (xs : List Value) (w : World) (hr : Reads w B 22 A n xs) (h1 : ∀ u ∈ xs, u.oneCell' = true) (hB : B ≤ w.heap.size) (hn : n * 240 ≤ 140737488355328) (hnil : A = none → n = 0 ∧ c = 0) :
    Calls Tryz.prog 126 #[.slice A n c] w fun e w' => ∃ A' c', e = .returned (.slice A' n c') ∧ w'.ownsRow w.heap.size 33 22 (.slice A' n c') n xs ∧ Below w.heap.size w w' := by
  obtain ⟨i0, hi0, hz0, hz1, hz2⟩ := info_parts res_info
  rcases A with _ | ad
  · obtain ⟨rfl, rfl⟩ := hnil rfl
    have hx : xs = [] := List.eq_nil_of_length_eq_zero (by simpa using hr.1)
    subst hx
    clear hr h1 hn hnil
    have hq := fun W : World => Lib.run_eql_slice_nil (P := Tryz.prog) W 31 33 none 0 0 0 0 Tryz.underlying31
    go_enter Tryz.func126, Tryz.ntmps126
    go_wp2
    go_ret
    exact ⟨_, _, rfl, World.ownsRow_nil _ _ _ _, Below.refl _ _⟩
  · have HR := Lib.hid hr
    have H1 := Lib.hid h1
    have hq := fun W : World => Lib.run_eql_slice_nil (P := Tryz.prog) W 31 33 (some ad) n c 0 0 Tryz.underlying31
    clear hr h1 hnil
    go_enter Tryz.func126, Tryz.ntmps126
    go_wp2_with (at_builtin; refine wpList_append_any _ rfl (.tmp 5) (.tmp 6) _ rfl w.heap.size 33 i0 _ 22 240 Tryz.underlying31 hi0 hz0 hz1 hz2 rfl (by decide) (.slice (some ⟨w.heap.size, 0, none⟩) 0 0) 0 [] rfl (World.ownsRow_made w #[] 0 (Nat.le_refl _) (by decide) rfl) B (some ad) n c xs rfl (HR.out.alloc hB _) H1.out (by simp only [maxLen]; omega) (by omega) (by simp) ?_; intro v1 w1 hown1 hg1 hat1)
    go_ret
    have hb1 : Below w.heap.size w w1 := ((Below.refl _ _).alloc (Nat.le_refl _) _).grown hg1 (by simp) (fun k hk => by simp [Value.ownBlock] at hk; omega)
    obtain ⟨A', c', rfl⟩ : ∃ A' c', v1 = .slice A' (0 + n) c' := by
      rcases hown1.2 with ⟨rfl, h0⟩ | ⟨g, cap, cur, rfl, _⟩
      · exact ⟨none, 0, by rw [h0]⟩
      · exact ⟨_, _, rfl⟩
    simp only [Nat.zero_add, List.nil_append] at hown1
    exact ⟨A', c', by simp, hown1, hb1⟩
theorem ressClone_any {w : World} {lo : Option Nat} {s : Sl} {len : Nat} {xs : List Value} (h : SlAt w lo 33 22 240 s len xs) (h1 : ∀ u ∈ xs, u.oneCell' = true) :
    Calls Tryz.prog 126 #[.slice s.A s.n s.c] w fun e w' => ∃ s' : Sl, e = .returned (.slice s'.A s'.n s'.c) ∧ SlAt w' (some w.heap.size) 33 22 240 s' len xs ∧ Below w.heap.size w w' :=
  (ressClone_own s.A s.n s.c w.heap.size xs w h.reads h1 (Nat.le_refl _) h.reach' h.nil).mono fun _ _ ⟨A', c', h1, h2, h3⟩ => ⟨⟨A', s.n, c'⟩, h1, by rw [h.len]; exact SlAt.of_own h2 h.reach, h3⟩
end Go.Proofs.YtnbaajplelchjaaGreatDoor
