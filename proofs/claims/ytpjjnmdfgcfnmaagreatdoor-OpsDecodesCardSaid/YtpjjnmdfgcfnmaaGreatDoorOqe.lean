/- Copies in new memory: slices.Clone, bytes.Clone. (printed by gen_p8.py) -/
import Derived.Test.YtpjjnmdfgcfnmaaGreatDoorOqd
import Derived.Test.YtpjjnmdfgcfnmaaGreatDoorOqb
set_option linter.unusedVariables false
set_option linter.unusedSimpArgs false
namespace Go.Proofs.YtpjjnmdfgcfnmaaGreatDoor
open Go.RowKit

theorem u8O_info : (Tryz.prog.info? 5).map (fun i => (i.zero, i.size, i.bytes)) = some (some (.int .u8 0), 1, 1) := by kernel_rfl
theorem acl_info : (Tryz.prog.info? 104).map (fun i => (i.zero, i.size, i.bytes)) = some (some (.agg #[.int .i32 0, .string .empty, .string .empty]), 3, 40) := by kernel_rfl
theorem id_info : (Tryz.prog.info? 102).map (fun i => (i.zero, i.size, i.bytes)) = some (some (.agg #[.string .empty, .string .empty]), 2, 32) := by kernel_rfl
theorem strO_info : (Tryz.prog.info? 9).map (fun i => (i.zero, i.size, i.bytes)) = some (some (.string .empty), 1, 16) := by kernel_rfl
def opZero : Array Value := #[.int .i32 0, .string .empty, .slice none 0 0, .slice none 0 0, .int .i32 0, .int .i32 0, .bool false, .int .i64 0, .int .i64 0, .int .i64 0, .int .i64 0, .slice none 0 0, .slice none 0 0, .slice none 0 0, .slice none 0 0, .slice none 0 0, .int .i32 0, .slice none 0 0, .slice none 0 0]
theorem op_info : (Tryz.prog.info? 29).map (fun i => (i.zero, i.size, i.bytes)) = some (some (.agg opZero), 19, 296) := by kernel_rfl
theorem one_flat {α : Type} (L : List α) (f : α → List Value) (h : ∀ x ∈ L, ∀ u ∈ f x, u.oneCell' = true) : ∀ u ∈ L.flatMap f, u.oneCell' = true := by
  intro u hu
  obtain ⟨x, hx, hux⟩ := List.mem_flatMap.1 hu
  exact h x hx u hux
theorem aclCells_one (L : List AclT) : ∀ u ∈ aclCells L, u.oneCell' = true := one_flat L _ fun x _ u hu => by
  simp only [List.mem_cons, List.not_mem_nil, or_false] at hu
  rcases hu with rfl | rfl | rfl <;> rfl
theorem idCells_one (L : List (ByteArray × ByteArray)) : ∀ u ∈ idCells L, u.oneCell' = true := one_flat L _ fun x _ u hu => by
  simp only [List.mem_cons, List.not_mem_nil, or_false] at hu
  rcases hu with rfl | rfl <;> rfl
theorem strCells_one (L : List ByteArray) : ∀ u ∈ strCells L, u.oneCell' = true := one_flat L _ fun x _ u hu => by
  simp only [List.mem_cons, List.not_mem_nil, or_false] at hu
  subst hu; rfl
theorem opCells_one {w : World} {lo : Option Nat} {Q : List (OpC × List Value)} (h : ∀ q ∈ Q, At w lo q.1 q.2) : ∀ u ∈ Q.flatMap Prod.snd, u.oneCell' = true := one_flat Q _ fun x hx u hu => by
  have := (h x hx).one
  rw [Array.all_eq_true_iff_forall_mem] at this
  exact this u (by simpa using hu)
theorem SlAt.reach' {w : World} {lo : Option Nat} {e : TypeId} {size bytes len : Nat} {s : Sl} {xs : List Value} (h : SlAt w lo e size bytes s len xs) : s.n * bytes ≤ 140737488355328 := by
  have := h.reach
  unfold reachBytes at this
  omega

set_option maxRecDepth 100000 in
set_option maxHeartbeats 400000 in
theorem bytesClone_own (A : Option Addr) (n c B : Nat) (xs : List Value) (w : World) (hr : Reads w B 1 A n xs) (h1 : ∀ u ∈ xs, u.oneCell' = true) (hB : B ≤ w.heap.size) (hn : n * 1 ≤ 140737488355328) (hnil : A = none → n = 0 ∧ c = 0) :
    Calls Tryz.prog 66 #[.slice A n c] w fun e w' => ∃ A' c', e = .returned (.slice A' n c') ∧ w'.ownsRow w.heap.size 5 1 (.slice A' n c') n xs ∧ Below w.heap.size w w' := by
  obtain ⟨i0, hi0, hz0, hz1, hz2⟩ := info_parts u8O_info
  rcases A with _ | ad
  · obtain ⟨rfl, rfl⟩ := hnil rfl
    have hx : xs = [] := List.eq_nil_of_length_eq_zero (by simpa using hr.1)
    subst hx
    clear hr h1 hn hnil
    have hq := fun W : World => Lib.run_eql_slice_nil (P := Tryz.prog) W 22 5 none 0 0 0 0 Tryz.underlying22
    go_enter Tryz.func66, Tryz.ntmps66
    go_wp2
    go_ret
    exact ⟨_, _, rfl, World.ownsRow_nil _ _ _ _, Below.refl _ _⟩
  · have HR := Lib.hid hr
    have H1 := Lib.hid h1
    have hq := fun W : World => Lib.run_eql_slice_nil (P := Tryz.prog) W 22 5 (some ad) n c 0 0 Tryz.underlying22
    clear hr h1 hnil
    go_enter Tryz.func66, Tryz.ntmps66
    go_wp2_with (at_builtin; refine wpList_append_any _ rfl (.tmp 5) (.tmp 6) _ rfl w.heap.size 5 i0 _ 1 1 Tryz.underlying22 hi0 hz0 hz1 hz2 rfl (by decide) (.slice (some ⟨w.heap.size, 0, none⟩) 0 0) 0 [] rfl (World.ownsRow_made w #[] 0 (Nat.le_refl _) (by decide) rfl) B (some ad) n c xs rfl (HR.out.alloc hB _) H1.out (by simp only [maxLen]; omega) (by omega) (by simp) ?_; intro v1 w1 hown1 hg1 hat1)
    go_ret
    have hb1 : Below w.heap.size w w1 := ((Below.refl _ _).alloc (Nat.le_refl _) _).grown hg1 (by simp) (fun k hk => by simp [Value.ownBlock] at hk; omega)
    obtain ⟨A', c', rfl⟩ : ∃ A' c', v1 = .slice A' (0 + n) c' := by
      rcases hown1.2 with ⟨rfl, h0⟩ | ⟨g, cap, cur, rfl, _⟩
      · exact ⟨none, 0, by rw [h0]⟩
      · exact ⟨_, _, rfl⟩
    simp only [Nat.zero_add, List.nil_append] at hown1
    exact ⟨A', c', by simp, hown1, hb1⟩
theorem bytesClone_any {w : World} {lo : Option Nat} {s : Sl} {len : Nat} {xs : List Value} (h : SlAt w lo 5 1 1 s len xs) (h1 : ∀ u ∈ xs, u.oneCell' = true) :
    Calls Tryz.prog 66 #[.slice s.A s.n s.c] w fun e w' => ∃ s' : Sl, e = .returned (.slice s'.A s'.n s'.c) ∧ SlAt w' (some w.heap.size) 5 1 1 s' len xs ∧ Below w.heap.size w w' :=
  (bytesClone_own s.A s.n s.c w.heap.size xs w h.reads h1 (Nat.le_refl _) h.reach' h.nil).mono fun _ _ ⟨A', c', h1, h2, h3⟩ => ⟨⟨A', s.n, c'⟩, h1, by rw [h.len]; exact SlAt.of_own h2 h.reach, h3⟩
set_option maxRecDepth 100000 in
set_option maxHeartbeats 400000 in
theorem aclsClone_own (A : Option Addr) (n c B : Nat) (xs : List Value) (w : World) (hr : Reads w B 3 A n xs) (h1 : ∀ u ∈ xs, u.oneCell' = true) (hB : B ≤ w.heap.size) (hn : n * 40 ≤ 140737488355328) (hnil : A = none → n = 0 ∧ c = 0) :
    Calls Tryz.prog 67 #[.slice A n c] w fun e w' => ∃ A' c', e = .returned (.slice A' n c') ∧ w'.ownsRow w.heap.size 104 3 (.slice A' n c') n xs ∧ Below w.heap.size w w' := by
  obtain ⟨i0, hi0, hz0, hz1, hz2⟩ := info_parts acl_info
  rcases A with _ | ad
  · obtain ⟨rfl, rfl⟩ := hnil rfl
    have hx : xs = [] := List.eq_nil_of_length_eq_zero (by simpa using hr.1)
    subst hx
    clear hr h1 hn hnil
    have hq := fun W : World => Lib.run_eql_slice_nil (P := Tryz.prog) W 23 104 none 0 0 0 0 Tryz.underlying23
    go_enter Tryz.func67, Tryz.ntmps67
    go_wp2
    go_ret
    exact ⟨_, _, rfl, World.ownsRow_nil _ _ _ _, Below.refl _ _⟩
  · have HR := Lib.hid hr
    have H1 := Lib.hid h1
    have hq := fun W : World => Lib.run_eql_slice_nil (P := Tryz.prog) W 23 104 (some ad) n c 0 0 Tryz.underlying23
    clear hr h1 hnil
    go_enter Tryz.func67, Tryz.ntmps67
    go_wp2_with (at_builtin; refine wpList_append_any _ rfl (.tmp 5) (.tmp 6) _ rfl w.heap.size 104 i0 _ 3 40 Tryz.underlying23 hi0 hz0 hz1 hz2 rfl (by decide) (.slice (some ⟨w.heap.size, 0, none⟩) 0 0) 0 [] rfl (World.ownsRow_made w #[] 0 (Nat.le_refl _) (by decide) rfl) B (some ad) n c xs rfl (HR.out.alloc hB _) H1.out (by simp only [maxLen]; omega) (by omega) (by simp) ?_; intro v1 w1 hown1 hg1 hat1)
    go_ret
    have hb1 : Below w.heap.size w w1 := ((Below.refl _ _).alloc (Nat.le_refl _) _).grown hg1 (by simp) (fun k hk => by simp [Value.ownBlock] at hk; omega)
    obtain ⟨A', c', rfl⟩ : ∃ A' c', v1 = .slice A' (0 + n) c' := by
      rcases hown1.2 with ⟨rfl, h0⟩ | ⟨g, cap, cur, rfl, _⟩
      · exact ⟨none, 0, by rw [h0]⟩
      · exact ⟨_, _, rfl⟩
    simp only [Nat.zero_add, List.nil_append] at hown1
    exact ⟨A', c', by simp, hown1, hb1⟩
theorem aclsClone_any {w : World} {lo : Option Nat} {s : Sl} {len : Nat} {xs : List Value} (h : SlAt w lo 104 3 40 s len xs) (h1 : ∀ u ∈ xs, u.oneCell' = true) :
    Calls Tryz.prog 67 #[.slice s.A s.n s.c] w fun e w' => ∃ s' : Sl, e = .returned (.slice s'.A s'.n s'.c) ∧ SlAt w' (some w.heap.size) 104 3 40 s' len xs ∧ Below w.heap.size w w' :=
  (aclsClone_own s.A s.n s.c w.heap.size xs w h.reads h1 (Nat.le_refl _) h.reach' h.nil).mono fun _ _ ⟨A', c', h1, h2, h3⟩ => ⟨⟨A', s.n, c'⟩, h1, by rw [h.len]; exact SlAt.of_own h2 h.reach, h3⟩
set_option maxRecDepth 100000 in
set_option maxHeartbeats 400000 in
theorem idsClone_own (A : Option Addr) (n c B : Nat) (xs : List Value) (w : World) (hr : Reads w B 2 A n xs) (h1 : ∀ u ∈ xs, u.oneCell' = true) (hB : B ≤ w.heap.size) (hn : n * 32 ≤ 140737488355328) (hnil : A = none → n = 0 ∧ c = 0) :
    Calls Tryz.prog 68 #[.slice A n c] w fun e w' => ∃ A' c', e = .returned (.slice A' n c') ∧ w'.ownsRow w.heap.size 102 2 (.slice A' n c') n xs ∧ Below w.heap.size w w' := by
  obtain ⟨i0, hi0, hz0, hz1, hz2⟩ := info_parts id_info
  rcases A with _ | ad
  · obtain ⟨rfl, rfl⟩ := hnil rfl
    have hx : xs = [] := List.eq_nil_of_length_eq_zero (by simpa using hr.1)
    subst hx
    clear hr h1 hn hnil
    have hq := fun W : World => Lib.run_eql_slice_nil (P := Tryz.prog) W 26 102 none 0 0 0 0 Tryz.underlying26
    go_enter Tryz.func68, Tryz.ntmps68
    go_wp2
    go_ret
    exact ⟨_, _, rfl, World.ownsRow_nil _ _ _ _, Below.refl _ _⟩
  · have HR := Lib.hid hr
    have H1 := Lib.hid h1
    have hq := fun W : World => Lib.run_eql_slice_nil (P := Tryz.prog) W 26 102 (some ad) n c 0 0 Tryz.underlying26
    clear hr h1 hnil
    go_enter Tryz.func68, Tryz.ntmps68
    go_wp2_with (at_builtin; refine wpList_append_any _ rfl (.tmp 5) (.tmp 6) _ rfl w.heap.size 102 i0 _ 2 32 Tryz.underlying26 hi0 hz0 hz1 hz2 rfl (by decide) (.slice (some ⟨w.heap.size, 0, none⟩) 0 0) 0 [] rfl (World.ownsRow_made w #[] 0 (Nat.le_refl _) (by decide) rfl) B (some ad) n c xs rfl (HR.out.alloc hB _) H1.out (by simp only [maxLen]; omega) (by omega) (by simp) ?_; intro v1 w1 hown1 hg1 hat1)
    go_ret
    have hb1 : Below w.heap.size w w1 := ((Below.refl _ _).alloc (Nat.le_refl _) _).grown hg1 (by simp) (fun k hk => by simp [Value.ownBlock] at hk; omega)
    obtain ⟨A', c', rfl⟩ : ∃ A' c', v1 = .slice A' (0 + n) c' := by
      rcases hown1.2 with ⟨rfl, h0⟩ | ⟨g, cap, cur, rfl, _⟩
      · exact ⟨none, 0, by rw [h0]⟩
      · exact ⟨_, _, rfl⟩
    simp only [Nat.zero_add, List.nil_append] at hown1
    exact ⟨A', c', by simp, hown1, hb1⟩
theorem idsClone_any {w : World} {lo : Option Nat} {s : Sl} {len : Nat} {xs : List Value} (h : SlAt w lo 102 2 32 s len xs) (h1 : ∀ u ∈ xs, u.oneCell' = true) :
    Calls Tryz.prog 68 #[.slice s.A s.n s.c] w fun e w' => ∃ s' : Sl, e = .returned (.slice s'.A s'.n s'.c) ∧ SlAt w' (some w.heap.size) 102 2 32 s' len xs ∧ Below w.heap.size w w' :=
  (idsClone_own s.A s.n s.c w.heap.size xs w h.reads h1 (Nat.le_refl _) h.reach' h.nil).mono fun _ _ ⟨A', c', h1, h2, h3⟩ => ⟨⟨A', s.n, c'⟩, h1, by rw [h.len]; exact SlAt.of_own h2 h.reach, h3⟩
set_option maxRecDepth 100000 in
set_option maxHeartbeats 400000 in
theorem strsClone_own (A : Option Addr) (n c B : Nat) (xs : List Value) (w : World) (hr : Reads w B 1 A n xs) (h1 : ∀ u ∈ xs, u.oneCell' = true) (hB : B ≤ w.heap.size) (hn : n * 16 ≤ 140737488355328) (hnil : A = none → n = 0 ∧ c = 0) :
    Calls Tryz.prog 69 #[.slice A n c] w fun e w' => ∃ A' c', e = .returned (.slice A' n c') ∧ w'.ownsRow w.heap.size 9 1 (.slice A' n c') n xs ∧ Below w.heap.size w w' := by
  obtain ⟨i0, hi0, hz0, hz1, hz2⟩ := info_parts strO_info
  rcases A with _ | ad
  · obtain ⟨rfl, rfl⟩ := hnil rfl
    have hx : xs = [] := List.eq_nil_of_length_eq_zero (by simpa using hr.1)
    subst hx
    clear hr h1 hn hnil
    have hq := fun W : World => Lib.run_eql_slice_nil (P := Tryz.prog) W 24 9 none 0 0 0 0 Tryz.underlying24
    go_enter Tryz.func69, Tryz.ntmps69
    go_wp2
    go_ret
    exact ⟨_, _, rfl, World.ownsRow_nil _ _ _ _, Below.refl _ _⟩
  · have HR := Lib.hid hr
    have H1 := Lib.hid h1
    have hq := fun W : World => Lib.run_eql_slice_nil (P := Tryz.prog) W 24 9 (some ad) n c 0 0 Tryz.underlying24
    clear hr h1 hnil
    go_enter Tryz.func69, Tryz.ntmps69
    go_wp2_with (at_builtin; refine wpList_append_any _ rfl (.tmp 5) (.tmp 6) _ rfl w.heap.size 9 i0 _ 1 16 Tryz.underlying24 hi0 hz0 hz1 hz2 rfl (by decide) (.slice (some ⟨w.heap.size, 0, none⟩) 0 0) 0 [] rfl (World.ownsRow_made w #[] 0 (Nat.le_refl _) (by decide) rfl) B (some ad) n c xs rfl (HR.out.alloc hB _) H1.out (by simp only [maxLen]; omega) (by omega) (by simp) ?_; intro v1 w1 hown1 hg1 hat1)
    go_ret
    have hb1 : Below w.heap.size w w1 := ((Below.refl _ _).alloc (Nat.le_refl _) _).grown hg1 (by simp) (fun k hk => by simp [Value.ownBlock] at hk; omega)
    obtain ⟨A', c', rfl⟩ : ∃ A' c', v1 = .slice A' (0 + n) c' := by
      rcases hown1.2 with ⟨rfl, h0⟩ | ⟨g, cap, cur, rfl, _⟩
      · exact ⟨none, 0, by rw [h0]⟩
      · exact ⟨_, _, rfl⟩
    simp only [Nat.zero_add, List.nil_append] at hown1
    exact ⟨A', c', by simp, hown1, hb1⟩
theorem strsClone_any {w : World} {lo : Option Nat} {s : Sl} {len : Nat} {xs : List Value} (h : SlAt w lo 9 1 16 s len xs) (h1 : ∀ u ∈ xs, u.oneCell' = true) :
    Calls Tryz.prog 69 #[.slice s.A s.n s.c] w fun e w' => ∃ s' : Sl, e = .returned (.slice s'.A s'.n s'.c) ∧ SlAt w' (some w.heap.size) 9 1 16 s' len xs ∧ Below w.heap.size w w' :=
  (strsClone_own s.A s.n s.c w.heap.size xs w h.reads h1 (Nat.le_refl _) h.reach' h.nil).mono fun _ _ ⟨A', c', h1, h2, h3⟩ => ⟨⟨A', s.n, c'⟩, h1, by rw [h.len]; exact SlAt.of_own h2 h.reach, h3⟩
set_option maxRecDepth 100000 in
set_option maxHeartbeats 400000 in
theorem opsClone_own (A : Option Addr) (n c B : Nat) (xs : List Value) (w : World) (hr : Reads w B 19 A n xs) (h1 : ∀ u ∈ xs, u.oneCell' = true) (hB : B ≤ w.heap.size) (hn : n * 296 ≤ 140737488355328) (hnil : A = none → n = 0 ∧ c = 0) :
    Calls Tryz.prog 70 #[.slice A n c] w fun e w' => ∃ A' c', e = .returned (.slice A' n c') ∧ w'.ownsRow w.heap.size 29 19 (.slice A' n c') n xs ∧ Below w.heap.size w w' := by
  obtain ⟨i0, hi0, hz0, hz1, hz2⟩ := info_parts op_info
  rcases A with _ | ad
  · obtain ⟨rfl, rfl⟩ := hnil rfl
    have hx : xs = [] := List.eq_nil_of_length_eq_zero (by simpa using hr.1)
    subst hx
    clear hr h1 hn hnil
    have hq := fun W : World => Lib.run_eql_slice_nil (P := Tryz.prog) W 27 29 none 0 0 0 0 Tryz.underlying27
    go_enter Tryz.func70, Tryz.ntmps70
    go_wp2
    go_ret
    exact ⟨_, _, rfl, World.ownsRow_nil _ _ _ _, Below.refl _ _⟩
  · have HR := Lib.hid hr
    have H1 := Lib.hid h1
    have hq := fun W : World => Lib.run_eql_slice_nil (P := Tryz.prog) W 27 29 (some ad) n c 0 0 Tryz.underlying27
    clear hr h1 hnil
    go_enter Tryz.func70, Tryz.ntmps70
    go_wp2_with (at_builtin; refine wpList_append_any _ rfl (.tmp 5) (.tmp 6) _ rfl w.heap.size 29 i0 _ 19 296 Tryz.underlying27 hi0 hz0 hz1 hz2 rfl (by decide) (.slice (some ⟨w.heap.size, 0, none⟩) 0 0) 0 [] rfl (World.ownsRow_made w #[] 0 (Nat.le_refl _) (by decide) rfl) B (some ad) n c xs rfl (HR.out.alloc hB _) H1.out (by simp only [maxLen]; omega) (by omega) (by simp) ?_; intro v1 w1 hown1 hg1 hat1)
    go_ret
    have hb1 : Below w.heap.size w w1 := ((Below.refl _ _).alloc (Nat.le_refl _) _).grown hg1 (by simp) (fun k hk => by simp [Value.ownBlock] at hk; omega)
    obtain ⟨A', c', rfl⟩ : ∃ A' c', v1 = .slice A' (0 + n) c' := by
      rcases hown1.2 with ⟨rfl, h0⟩ | ⟨g, cap, cur, rfl, _⟩
      · exact ⟨none, 0, by rw [h0]⟩
      · exact ⟨_, _, rfl⟩
    simp only [Nat.zero_add, List.nil_append] at hown1
    exact ⟨A', c', by simp, hown1, hb1⟩
theorem opsClone_any {w : World} {lo : Option Nat} {s : Sl} {len : Nat} {xs : List Value} (h : SlAt w lo 29 19 296 s len xs) (h1 : ∀ u ∈ xs, u.oneCell' = true) :
    Calls Tryz.prog 70 #[.slice s.A s.n s.c] w fun e w' => ∃ s' : Sl, e = .returned (.slice s'.A s'.n s'.c) ∧ SlAt w' (some w.heap.size) 29 19 296 s' len xs ∧ Below w.heap.size w w' :=
  (opsClone_own s.A s.n s.c w.heap.size xs w h.reads h1 (Nat.le_refl _) h.reach' h.nil).mono fun _ _ ⟨A', c', h1, h2, h3⟩ => ⟨⟨A', s.n, c'⟩, h1, by rw [h.len]; exact SlAt.of_own h2 h.reach, h3⟩
end Go.Proofs.YtpjjnmdfgcfnmaaGreatDoor
/- A clone under way: the box of the operation, the lists made so far. -/
namespace Go.Proofs.YtpjjnmdfgcfnmaaGreatDoor
open Go.RowKit

section
variable {w w' : World} {b b' g : Nat} {e : TypeId} {size bytes len n : Nat} {s : Sl} {v : Value} {xs : List Value}
theorem own_lo (h : w.ownsRow b e size v n xs) (hb : b' ≤ b) : w.ownsRow b' e size v n xs := ⟨h.1, h.2.imp id fun ⟨g, cap, cur, h1, h2, h3⟩ => ⟨g, cap, cur, h1, Nat.le_trans hb h2, h3⟩⟩
theorem own_grown (h : w.ownsRow b e size v n xs) (hg : w.grownBy w' (some g)) (hlt : g < b) : w'.ownsRow b e size v n xs := by
  refine h.kept hg ?_
  cases hv : v.ownBlock with
  | none => exact .inl rfl
  | some k =>
    right
    intro he
    injection he with he
    have := (h.lt k hv).1
    omega
theorem SlAt.lo (h : SlAt w (some b) e size bytes s len xs) (hb : b' ≤ b) : SlAt w (some b') e size bytes s len xs :=
  ⟨h.nil, h.le, h.cap, h.reach, h.len, h.reads, fun c hc => by injection hc with hc; subst hc; exact own_lo (h.own b rfl) hb⟩
theorem SlAt.grown (h : SlAt w (some b) e size bytes s len xs) (hg : w.grownBy w' (some g)) (hlt : g < b) : SlAt w' (some b) e size bytes s len xs := by
  have ho := own_grown (h.own b rfl) hg hlt
  exact ⟨h.nil, h.le, h.cap, h.reach, h.len, Reads.of_own ho, fun c hc => by injection hc with hc; subst hc; exact ho⟩
theorem At.lo {x : OpC} {cs : List Value} {lo : Option Nat} (h : At w lo x cs) : ∀ {b b' : Nat}, lo = some b → b' ≤ b → At w (some b') x cs := by
  induction h with
  | mk f d a k0 k1 k2 k3 k4 i s Q ok hd ha hk0 hk1 hk2 hk3 hk4 hi hs _ ih =>
    intro b b' hlo hb
    subst hlo
    exact .mk f d a k0 k1 k2 k3 k4 i s Q ok (hd.lo hb) (ha.lo hb) (hk0.lo hb) (hk1.lo hb) (hk2.lo hb) (hk3.lo hb) (hk4.lo hb) (hi.lo hb) (hs.lo hb) fun q hq => ih q hq rfl hb
theorem At.grown {x : OpC} {cs : List Value} {lo : Option Nat} (h : At w lo x cs) : ∀ {b : Nat}, lo = some b → w.grownBy w' (some g) → g < b → At w' (some b) x cs := by
  induction h with
  | mk f d a k0 k1 k2 k3 k4 i s Q ok hd ha hk0 hk1 hk2 hk3 hk4 hi hs _ ih =>
    intro b hlo hg hlt
    subst hlo
    exact .mk f d a k0 k1 k2 k3 k4 i s Q ok (hd.grown hg hlt) (ha.grown hg hlt) (hk0.grown hg hlt) (hk1.grown hg hlt) (hk2.grown hg hlt) (hk3.grown hg hlt) (hk4.grown hg hlt) (hi.grown hg hlt) (hs.grown hg hlt) fun q hq => ih q hq rfl hg hlt
end
def OpF.rowL (f : OpF) (d a : Sl) (ks : List Sl) (i s : Sl) : List Value := [.int .i32 f.t, .string f.p, d.v, a.v, .int .i32 f.fl, .int .i32 f.ve, .bool f.wa, .int .i64 f.ct, .int .i64 f.by_, .int .i64 f.tl, .int .i64 f.zx] ++ (ks.map Sl.v ++ [.int .i32 f.to, i.v, s.v])
section
variable {f : OpF} {d a d' a' k' i s i' s' : Sl} {ks : List Sl}
theorem rowL_eq (k0 k1 k2 k3 k4 : Sl) : f.row d a k0 k1 k2 k3 k4 i s = f.rowL d a [k0, k1, k2, k3, k4] i s := rfl
theorem list5 {α : Type} {xs : List α} (h : xs.length = 5) : ∃ a0 a1 a2 a3 a4, xs = [a0, a1, a2, a3, a4] := by
  match xs, h with
  | [a0, a1, a2, a3, a4], _ => exact ⟨_, _, _, _, _, rfl⟩
theorem rowL_len (h : ks.length = 5) : (f.rowL d a ks i s).length = 19 := by
  obtain ⟨_, _, _, _, _, rfl⟩ := list5 h
  rfl
theorem rowL_d : (f.rowL d a ks i s).take 2 ++ [d'.v] ++ (f.rowL d a ks i s).drop 3 = f.rowL d' a ks i s := rfl
theorem rowL_a : (f.rowL d a ks i s).take 3 ++ [a'.v] ++ (f.rowL d a ks i s).drop 4 = f.rowL d a' ks i s := rfl
theorem rowL_i (h : ks.length = 5) : (f.rowL d a ks i s).take 17 ++ [i'.v] ++ (f.rowL d a ks i s).drop 18 = f.rowL d a ks i' s := by
  obtain ⟨_, _, _, _, _, rfl⟩ := list5 h
  rfl
theorem rowL_s (h : ks.length = 5) : (f.rowL d a ks i s).take 18 ++ [s'.v] ++ (f.rowL d a ks i s).drop 19 = f.rowL d a ks i s' := by
  obtain ⟨_, _, _, _, _, rfl⟩ := list5 h
  rfl
theorem rowL_k (h : ks.length = 5) {j : Nat} (hj : j < 5) : (f.rowL d a ks i s).take (11 + j) ++ [k'.v] ++ (f.rowL d a ks i s).drop (11 + j + 1) = f.rowL d a (ks.set j k') i s := by
  obtain ⟨_, _, _, _, _, rfl⟩ := list5 h
  rcases (by omega : j = 0 ∨ j = 1 ∨ j = 2 ∨ j = 3 ∨ j = 4) with rfl | rfl | rfl | rfl | rfl <;> rfl
theorem rowL_get (h : ks.length = 5) {j : Nat} (hj : j < ks.length) : (f.rowL d a ks i s).toArray[11 + j]? = some (ks[j]).v := by
  obtain ⟨_, _, _, _, _, rfl⟩ := list5 h
  simp at hj
  rcases (by omega : j = 0 ∨ j = 1 ∨ j = 2 ∨ j = 3 ∨ j = 4) with rfl | rfl | rfl | rfl | rfl <;> rfl
end
/-- the box of what is cloned, and the result's variable behind it -/
structure KSt (w : World) (f : OpF) (d a : Sl) (ks : List Sl) (i s : Sl) (W : World) : Prop where
  blk : Blk W w.heap.size 29 (f.rowL d a ks i s).toArray
  res : ∃ zr, Blk W (w.heap.size + 1) 29 zr ∧ zr.size = 19
  below : Below w.heap.size w W
  size : w.heap.size + 2 ≤ W.heap.size
  len : ks.length = 5
section
variable {w W W' : World} {f : OpF} {d a d' a' k' i s i' s' : Sl} {ks : List Sl} {cs : Array Value} {g : Nat}
theorem KSt.later (h : KSt w f d a ks i s W) (hb : Below W.heap.size W W') : KSt w f d a ks i s W' := by
  obtain ⟨zr, h1, h2⟩ := h.res
  exact ⟨h.blk.below hb h.blk.lt, ⟨zr, h1.below hb h1.lt, h2⟩, h.below.trans (hb.mono h.below.size), Nat.le_trans h.size hb.size, h.len⟩
theorem KSt.put (h : KSt w f d a ks i s W) {ks' : List Sl} (hB : Blk W' w.heap.size 29 cs) (hg : W.grownBy W' (some w.heap.size)) (e : cs.toList = f.rowL d' a' ks' i' s') (hl : ks'.length = 5) : KSt w f d' a' ks' i' s' W' := by
  obtain ⟨zr, h1, h2⟩ := h.res
  have e' : cs = (f.rowL d' a' ks' i' s').toArray := by rw [← e]
  exact ⟨e' ▸ hB, ⟨zr, h1.grown hg (by simp), h2⟩, h.below.grown hg (by have := h.size; omega) (fun k hk => by injection hk with hk; omega), Nat.le_trans h.size hg.size, hl⟩
/-- a block made later is written -/
theorem KSt.far (h : KSt w f d a ks i s W) (hg : W.grownBy W' (some g)) (hlt : w.heap.size + 2 ≤ g) : KSt w f d a ks i s W' := by
  obtain ⟨zr, h1, h2⟩ := h.res
  exact ⟨h.blk.grown hg (by simp; omega), ⟨zr, h1.grown hg (by simp; omega), h2⟩, h.below.grown hg (by have := h.size; omega) (fun k hk => by injection hk with hk; omega), Nat.le_trans h.size hg.size, h.len⟩
theorem KSt.c2 (h : KSt w f d a ks i s W) : W.cell? ⟨w.heap.size, 2, none⟩ = some (.slice d.A d.n d.c) := (h.blk.cell 2).trans rfl
theorem KSt.c3 (h : KSt w f d a ks i s W) : W.cell? ⟨w.heap.size, 3, none⟩ = some (.slice a.A a.n a.c) := (h.blk.cell 3).trans rfl
theorem KSt.c17 (h : KSt w f d a ks i s W) : W.cell? ⟨w.heap.size, 17, none⟩ = some (.slice i.A i.n i.c) := by
  obtain ⟨_, _, _, _, _, rfl⟩ := list5 h.len
  exact (h.blk.cell 17).trans rfl
theorem KSt.c18 (h : KSt w f d a ks i s W) : W.cell? ⟨w.heap.size, 18, none⟩ = some (.slice s.A s.n s.c) := by
  obtain ⟨_, _, _, _, _, rfl⟩ := list5 h.len
  exact (h.blk.cell 18).trans rfl
theorem KSt.ck (h : KSt w f d a ks i s W) {j : Nat} (hj : j < ks.length) : W.cell? ⟨w.heap.size, 11 + j, none⟩ = some (ks[j]).v := (h.blk.cell (11 + j)).trans (rowL_get h.len hj)
theorem KSt.asize (h : KSt w f d a ks i s W) : (f.rowL d a ks i s).toArray.size = 19 := by rw [List.size_toArray, rowL_len h.len]
end
/-- the rows of a list of operations, one of them another one -/
theorem rows_set : ∀ (R : List (OpC × List Value)) (j : Nat) (q : OpC × List Value), (∀ r ∈ R, r.2.length = 19) → q.2.length = 19 → j < R.length →
    (R.flatMap Prod.snd).take (j * 19) ++ q.2 ++ (R.flatMap Prod.snd).drop (j * 19 + 19) = (R.set j q).flatMap Prod.snd
  | [], j, _, _, _, h => by simp at h
  | r :: R, 0, q, hR, hq, _ => by
    have hr := hR r (by simp)
    rw [List.set_cons_zero, List.flatMap_cons, List.flatMap_cons, Nat.zero_mul, List.take_zero, List.nil_append, Nat.zero_add, ← hr, List.drop_left]
  | r :: R, j + 1, q, hR, hq, hj => by
    have hr := hR r (by simp)
    have ih := rows_set R j q (fun x hx => hR x (by simp [hx])) hq (by simpa using hj)
    rw [List.set_cons_succ, List.flatMap_cons, List.flatMap_cons, show (j + 1) * 19 = r.2.length + j * 19 by omega, List.take_length_add_append, show r.2.length + j * 19 + 19 = r.2.length + (j * 19 + 19) by omega, List.drop_length_add_append, List.append_assoc, List.append_assoc, ← ih]
    simp [List.append_assoc]
end Go.Proofs.YtpjjnmdfgcfnmaaGreatDoor
