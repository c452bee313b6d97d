/- Part 4 of a proof: lemmas and walks. -/
import Derived.Test.YtpjjnmdfgcfnmaaDoorK3
import Derived.Test.YtpjjnmdfgcfnmaaDoorK1
import Derived.LoopN
set_option linter.unusedVariables false
set_option linter.unusedSimpArgs false
set_option maxRecDepth 100000
set_option maxHeartbeats 8000000
namespace Go.Proofs.YtpjjnmdfgcfnmaaDoor
open Go.RowKit

theorem u8O_info : (Tryd.prog.info? 5).map (fun i => (i.zero, i.size, i.bytes)) = some (some (.int .u8 0), 1, 1) := by kernel_rfl
theorem acl_info : (Tryd.prog.info? 74).map (fun i => (i.zero, i.size, i.bytes)) = some (some (.agg #[.int .i32 0, .string .empty, .string .empty]), 3, 40) := by kernel_rfl
theorem id_info : (Tryd.prog.info? 72).map (fun i => (i.zero, i.size, i.bytes)) = some (some (.agg #[.string .empty, .string .empty]), 2, 32) := by kernel_rfl
theorem strO_info : (Tryd.prog.info? 9).map (fun i => (i.zero, i.size, i.bytes)) = some (some (.string .empty), 1, 16) := by kernel_rfl
def opZero : Array Value := #[.int .i32 0, .string .empty, .slice none 0 0, .slice none 0 0, .int .i32 0, .int .i32 0, .bool false, .int .i64 0, .int .i64 0, .int .i64 0, .int .i64 0, .slice none 0 0, .slice none 0 0, .slice none 0 0, .slice none 0 0, .slice none 0 0, .int .i32 0, .slice none 0 0, .slice none 0 0]
theorem op_info : (Tryd.prog.info? 29).map (fun i => (i.zero, i.size, i.bytes)) = some (some (.agg opZero), 19, 296) := by kernel_rfl
theorem one_flat {α : Type} (L : List α) (f : α → List Value) (h : ∀ x ∈ L, ∀ u ∈ f x, u.oneCell' = true) : ∀ u ∈ L.flatMap f, u.oneCell' = true := by
 intro u hu
 obtain ⟨x, hx, hux⟩ := List.mem_flatMap.1 hu
 exact h x hx u hux
theorem aclCells_one (L : List AclT) : ∀ u ∈ aclCells L, u.oneCell' = true := one_flat L _ fun x _ u hu => by
 simp only [zH, zI, or_false] at hu
 rcases hu with rfl | rfl | rfl <;> rfl
theorem idCells_one (L : List (ByteArray × ByteArray)) : ∀ u ∈ idCells L, u.oneCell' = true := one_flat L _ fun x _ u hu => by
 simp only [zH, zI, or_false] at hu
 rcases hu with rfl | rfl <;> rfl
theorem strCells_one (L : List ByteArray) : ∀ u ∈ strCells L, u.oneCell' = true := one_flat L _ fun x _ u hu => by
 simp only [zH, zI, or_false] at hu
 subst hu; rfl
theorem opCells_one {w : World} {lo : Option Nat} {Q : List (OpC × List Value)} (h : ∀ q ∈ Q, At w lo q.1 q.2) : ∀ u ∈ Q.flatMap Prod.snd, u.oneCell' = true := one_flat Q _ fun x hx u hu => by
 have := (h x hx).one
 rw [zQ] at this
 exact this u (by simpa using hu)
theorem SlAt.reach' {w : World} {lo : Option Nat} {e : TypeId} {size bytes len : Nat} {s : Sl} {xs : List Value} (h : SlAt w lo e size bytes s len xs) : s.n * bytes ≤ 140737488355328 := by
 have := h.reach
 unfold reachBytes at this
 omega

theorem bytesClone_own (A : Option Addr) (n c B : Nat) (xs : List Value) (w : World) (hr : Reads w B 1 A n xs) (h1 : ∀ u ∈ xs, u.oneCell' = true) (hB : B ≤ w.heap.size) (hn : n * 1 ≤ 140737488355328) (hnil : A = none → n = 0 ∧ c = 0) :
 Calls Tryd.prog 35 #[.slice A n c] w fun e w' => ∃ A' c', e = .returned (.slice A' n c') ∧ w'.ownsRow w.heap.size 5 1 (.slice A' n c') n xs ∧ Below w.heap.size w w' := by
 obtain ⟨i0, hi0, hz0, hz1, hz2⟩ := info_parts u8O_info
 rcases A with _ | ad
 · obtain ⟨rfl, rfl⟩ := hnil rfl
   have hx : xs = [] := List.eq_nil_of_length_eq_zero (by simpa using hr.1)
   subst hx
   clear hr h1 hn hnil
   have hq := fun W : World => Lib.run_eql_slice_nil (P := Tryd.prog) W 22 5 none 0 0 0 0 zU22
   go_enter Tryd.func35, Tryd.ntmps35
   go_wp2
   go_ret
   exact ⟨_, _, rfl, World.ownsRow_nil _ _ _ _, Below.refl _ _⟩
 · have HR := Hi hr
   have H1 := Hi h1
   have hq := fun W : World => Lib.run_eql_slice_nil (P := Tryd.prog) W 22 5 (some ad) n c 0 0 zU22
   clear hr h1 hnil
   go_enter Tryd.func35, Tryd.ntmps35
   go_wp2_with (at_builtin; refine wpList_append_any _ rfl (.tmp 5) (.tmp 6) _ rfl w.heap.size 5 i0 _ 1 1 zU22 hi0 hz0 hz1 hz2 rfl (by decide) (.slice (some ⟨w.heap.size, 0, none⟩) 0 0) 0 [] rfl (World.ownsRow_made w #[] 0 zR (by decide) rfl) B (some ad) n c xs rfl (HR.out.alloc hB _) H1.out (by simp only [maxLen]; omega) (by omega) (by simp) ?_; intro v1 w1 hown1 hg1 hat1)
   go_ret
   have hb1 : Below w.heap.size w w1 := (zT.alloc zR _).grown hg1 (by simp) (fun k hk => by simp [Value.ownBlock] at hk; omega)
   obtain ⟨A', c', rfl⟩ : ∃ A' c', v1 = .slice A' (0 + n) c' := by
    rcases hown1.2 with ⟨rfl, h0⟩ | ⟨g, cap, cur, rfl, _⟩
    · exact ⟨none, 0, by rw [h0]⟩
    · exact ⟨_, _, rfl⟩
   simp only [Nat.zero_add, List.nil_append] at hown1
   exact ⟨A', c', by simp, hown1, hb1⟩
theorem bytesClone_any {w : World} {lo : Option Nat} {s : Sl} {len : Nat} {xs : List Value} (h : SlAt w lo 5 1 1 s len xs) (h1 : ∀ u ∈ xs, u.oneCell' = true) :
 Calls Tryd.prog 35 #[.slice s.A s.n s.c] w fun e w' => ∃ s' : Sl, e = .returned (.slice s'.A s'.n s'.c) ∧ SlAt w' (some w.heap.size) 5 1 1 s' len xs ∧ Below w.heap.size w w' :=
 (bytesClone_own s.A s.n s.c w.heap.size xs w h.reads h1 zR h.reach' h.nil).mono fun _ _ ⟨A', c', h1, h2, h3⟩ => ⟨⟨A', s.n, c'⟩, h1, by rw [h.len]; exact SlAt.of_own h2 h.reach, h3⟩
theorem aclsClone_own (A : Option Addr) (n c B : Nat) (xs : List Value) (w : World) (hr : Reads w B 3 A n xs) (h1 : ∀ u ∈ xs, u.oneCell' = true) (hB : B ≤ w.heap.size) (hn : n * 40 ≤ 140737488355328) (hnil : A = none → n = 0 ∧ c = 0) :
 Calls Tryd.prog 36 #[.slice A n c] w fun e w' => ∃ A' c', e = .returned (.slice A' n c') ∧ w'.ownsRow w.heap.size 74 3 (.slice A' n c') n xs ∧ Below w.heap.size w w' := by
 obtain ⟨i0, hi0, hz0, hz1, hz2⟩ := info_parts acl_info
 rcases A with _ | ad
 · obtain ⟨rfl, rfl⟩ := hnil rfl
   have hx : xs = [] := List.eq_nil_of_length_eq_zero (by simpa using hr.1)
   subst hx
   clear hr h1 hn hnil
   have hq := fun W : World => Lib.run_eql_slice_nil (P := Tryd.prog) W 23 74 none 0 0 0 0 zU23
   go_enter Tryd.func36, Tryd.ntmps36
   go_wp2
   go_ret
   exact ⟨_, _, rfl, World.ownsRow_nil _ _ _ _, Below.refl _ _⟩
 · have HR := Hi hr
   have H1 := Hi h1
   have hq := fun W : World => Lib.run_eql_slice_nil (P := Tryd.prog) W 23 74 (some ad) n c 0 0 zU23
   clear hr h1 hnil
   go_enter Tryd.func36, Tryd.ntmps36
   go_wp2_with (at_builtin; refine wpList_append_any _ rfl (.tmp 5) (.tmp 6) _ rfl w.heap.size 74 i0 _ 3 40 zU23 hi0 hz0 hz1 hz2 rfl (by decide) (.slice (some ⟨w.heap.size, 0, none⟩) 0 0) 0 [] rfl (World.ownsRow_made w #[] 0 zR (by decide) rfl) B (some ad) n c xs rfl (HR.out.alloc hB _) H1.out (by simp only [maxLen]; omega) (by omega) (by simp) ?_; intro v1 w1 hown1 hg1 hat1)
   go_ret
   have hb1 : Below w.heap.size w w1 := (zT.alloc zR _).grown hg1 (by simp) (fun k hk => by simp [Value.ownBlock] at hk; omega)
   obtain ⟨A', c', rfl⟩ : ∃ A' c', v1 = .slice A' (0 + n) c' := by
    rcases hown1.2 with ⟨rfl, h0⟩ | ⟨g, cap, cur, rfl, _⟩
    · exact ⟨none, 0, by rw [h0]⟩
    · exact ⟨_, _, rfl⟩
   simp only [Nat.zero_add, List.nil_append] at hown1
   exact ⟨A', c', by simp, hown1, hb1⟩
theorem aclsClone_any {w : World} {lo : Option Nat} {s : Sl} {len : Nat} {xs : List Value} (h : SlAt w lo 74 3 40 s len xs) (h1 : ∀ u ∈ xs, u.oneCell' = true) :
 Calls Tryd.prog 36 #[.slice s.A s.n s.c] w fun e w' => ∃ s' : Sl, e = .returned (.slice s'.A s'.n s'.c) ∧ SlAt w' (some w.heap.size) 74 3 40 s' len xs ∧ Below w.heap.size w w' :=
 (aclsClone_own s.A s.n s.c w.heap.size xs w h.reads h1 zR h.reach' h.nil).mono fun _ _ ⟨A', c', h1, h2, h3⟩ => ⟨⟨A', s.n, c'⟩, h1, by rw [h.len]; exact SlAt.of_own h2 h.reach, h3⟩
theorem idsClone_own (A : Option Addr) (n c B : Nat) (xs : List Value) (w : World) (hr : Reads w B 2 A n xs) (h1 : ∀ u ∈ xs, u.oneCell' = true) (hB : B ≤ w.heap.size) (hn : n * 32 ≤ 140737488355328) (hnil : A = none → n = 0 ∧ c = 0) :
 Calls Tryd.prog 37 #[.slice A n c] w fun e w' => ∃ A' c', e = .returned (.slice A' n c') ∧ w'.ownsRow w.heap.size 72 2 (.slice A' n c') n xs ∧ Below w.heap.size w w' := by
 obtain ⟨i0, hi0, hz0, hz1, hz2⟩ := info_parts id_info
 rcases A with _ | ad
 · obtain ⟨rfl, rfl⟩ := hnil rfl
   have hx : xs = [] := List.eq_nil_of_length_eq_zero (by simpa using hr.1)
   subst hx
   clear hr h1 hn hnil
   have hq := fun W : World => Lib.run_eql_slice_nil (P := Tryd.prog) W 26 72 none 0 0 0 0 zU26
   go_enter Tryd.func37, Tryd.ntmps37
   go_wp2
   go_ret
   exact ⟨_, _, rfl, World.ownsRow_nil _ _ _ _, Below.refl _ _⟩
 · have HR := Hi hr
   have H1 := Hi h1
   have hq := fun W : World => Lib.run_eql_slice_nil (P := Tryd.prog) W 26 72 (some ad) n c 0 0 zU26
   clear hr h1 hnil
   go_enter Tryd.func37, Tryd.ntmps37
   go_wp2_with (at_builtin; refine wpList_append_any _ rfl (.tmp 5) (.tmp 6) _ rfl w.heap.size 72 i0 _ 2 32 zU26 hi0 hz0 hz1 hz2 rfl (by decide) (.slice (some ⟨w.heap.size, 0, none⟩) 0 0) 0 [] rfl (World.ownsRow_made w #[] 0 zR (by decide) rfl) B (some ad) n c xs rfl (HR.out.alloc hB _) H1.out (by simp only [maxLen]; omega) (by omega) (by simp) ?_; intro v1 w1 hown1 hg1 hat1)
   go_ret
   have hb1 : Below w.heap.size w w1 := (zT.alloc zR _).grown hg1 (by simp) (fun k hk => by simp [Value.ownBlock] at hk; omega)
   obtain ⟨A', c', rfl⟩ : ∃ A' c', v1 = .slice A' (0 + n) c' := by
    rcases hown1.2 with ⟨rfl, h0⟩ | ⟨g, cap, cur, rfl, _⟩
    · exact ⟨none, 0, by rw [h0]⟩
    · exact ⟨_, _, rfl⟩
   simp only [Nat.zero_add, List.nil_append] at hown1
   exact ⟨A', c', by simp, hown1, hb1⟩
theorem idsClone_any {w : World} {lo : Option Nat} {s : Sl} {len : Nat} {xs : List Value} (h : SlAt w lo 72 2 32 s len xs) (h1 : ∀ u ∈ xs, u.oneCell' = true) :
 Calls Tryd.prog 37 #[.slice s.A s.n s.c] w fun e w' => ∃ s' : Sl, e = .returned (.slice s'.A s'.n s'.c) ∧ SlAt w' (some w.heap.size) 72 2 32 s' len xs ∧ Below w.heap.size w w' :=
 (idsClone_own s.A s.n s.c w.heap.size xs w h.reads h1 zR h.reach' h.nil).mono fun _ _ ⟨A', c', h1, h2, h3⟩ => ⟨⟨A', s.n, c'⟩, h1, by rw [h.len]; exact SlAt.of_own h2 h.reach, h3⟩
theorem strsClone_own (A : Option Addr) (n c B : Nat) (xs : List Value) (w : World) (hr : Reads w B 1 A n xs) (h1 : ∀ u ∈ xs, u.oneCell' = true) (hB : B ≤ w.heap.size) (hn : n * 16 ≤ 140737488355328) (hnil : A = none → n = 0 ∧ c = 0) :
 Calls Tryd.prog 38 #[.slice A n c] w fun e w' => ∃ A' c', e = .returned (.slice A' n c') ∧ w'.ownsRow w.heap.size 9 1 (.slice A' n c') n xs ∧ Below w.heap.size w w' := by
 obtain ⟨i0, hi0, hz0, hz1, hz2⟩ := info_parts strO_info
 rcases A with _ | ad
 · obtain ⟨rfl, rfl⟩ := hnil rfl
   have hx : xs = [] := List.eq_nil_of_length_eq_zero (by simpa using hr.1)
   subst hx
   clear hr h1 hn hnil
   have hq := fun W : World => Lib.run_eql_slice_nil (P := Tryd.prog) W 24 9 none 0 0 0 0 zU24
   go_enter Tryd.func38, Tryd.ntmps38
   go_wp2
   go_ret
   exact ⟨_, _, rfl, World.ownsRow_nil _ _ _ _, Below.refl _ _⟩
 · have HR := Hi hr
   have H1 := Hi h1
   have hq := fun W : World => Lib.run_eql_slice_nil (P := Tryd.prog) W 24 9 (some ad) n c 0 0 zU24
   clear hr h1 hnil
   go_enter Tryd.func38, Tryd.ntmps38
   go_wp2_with (at_builtin; refine wpList_append_any _ rfl (.tmp 5) (.tmp 6) _ rfl w.heap.size 9 i0 _ 1 16 zU24 hi0 hz0 hz1 hz2 rfl (by decide) (.slice (some ⟨w.heap.size, 0, none⟩) 0 0) 0 [] rfl (World.ownsRow_made w #[] 0 zR (by decide) rfl) B (some ad) n c xs rfl (HR.out.alloc hB _) H1.out (by simp only [maxLen]; omega) (by omega) (by simp) ?_; intro v1 w1 hown1 hg1 hat1)
   go_ret
   have hb1 : Below w.heap.size w w1 := (zT.alloc zR _).grown hg1 (by simp) (fun k hk => by simp [Value.ownBlock] at hk; omega)
   obtain ⟨A', c', rfl⟩ : ∃ A' c', v1 = .slice A' (0 + n) c' := by
    rcases hown1.2 with ⟨rfl, h0⟩ | ⟨g, cap, cur, rfl, _⟩
    · exact ⟨none, 0, by rw [h0]⟩
    · exact ⟨_, _, rfl⟩
   simp only [Nat.zero_add, List.nil_append] at hown1
   exact ⟨A', c', by simp, hown1, hb1⟩
theorem strsClone_any {w : World} {lo : Option Nat} {s : Sl} {len : Nat} {xs : List Value} (h : SlAt w lo 9 1 16 s len xs) (h1 : ∀ u ∈ xs, u.oneCell' = true) :
 Calls Tryd.prog 38 #[.slice s.A s.n s.c] w fun e w' => ∃ s' : Sl, e = .returned (.slice s'.A s'.n s'.c) ∧ SlAt w' (some w.heap.size) 9 1 16 s' len xs ∧ Below w.heap.size w w' :=
 (strsClone_own s.A s.n s.c w.heap.size xs w h.reads h1 zR h.reach' h.nil).mono fun _ _ ⟨A', c', h1, h2, h3⟩ => ⟨⟨A', s.n, c'⟩, h1, by rw [h.len]; exact SlAt.of_own h2 h.reach, h3⟩
theorem opsClone_own (A : Option Addr) (n c B : Nat) (xs : List Value) (w : World) (hr : Reads w B 19 A n xs) (h1 : ∀ u ∈ xs, u.oneCell' = true) (hB : B ≤ w.heap.size) (hn : n * 296 ≤ 140737488355328) (hnil : A = none → n = 0 ∧ c = 0) :
 Calls Tryd.prog 39 #[.slice A n c] w fun e w' => ∃ A' c', e = .returned (.slice A' n c') ∧ w'.ownsRow w.heap.size 29 19 (.slice A' n c') n xs ∧ Below w.heap.size w w' := by
 obtain ⟨i0, hi0, hz0, hz1, hz2⟩ := info_parts op_info
 rcases A with _ | ad
 · obtain ⟨rfl, rfl⟩ := hnil rfl
   have hx : xs = [] := List.eq_nil_of_length_eq_zero (by simpa using hr.1)
   subst hx
   clear hr h1 hn hnil
   have hq := fun W : World => Lib.run_eql_slice_nil (P := Tryd.prog) W 27 29 none 0 0 0 0 zU27
   go_enter Tryd.func39, Tryd.ntmps39
   go_wp2
   go_ret
   exact ⟨_, _, rfl, World.ownsRow_nil _ _ _ _, Below.refl _ _⟩
 · have HR := Hi hr
   have H1 := Hi h1
   have hq := fun W : World => Lib.run_eql_slice_nil (P := Tryd.prog) W 27 29 (some ad) n c 0 0 zU27
   clear hr h1 hnil
   go_enter Tryd.func39, Tryd.ntmps39
   go_wp2_with (at_builtin; refine wpList_append_any _ rfl (.tmp 5) (.tmp 6) _ rfl w.heap.size 29 i0 _ 19 296 zU27 hi0 hz0 hz1 hz2 rfl (by decide) (.slice (some ⟨w.heap.size, 0, none⟩) 0 0) 0 [] rfl (World.ownsRow_made w #[] 0 zR (by decide) rfl) B (some ad) n c xs rfl (HR.out.alloc hB _) H1.out (by simp only [maxLen]; omega) (by omega) (by simp) ?_; intro v1 w1 hown1 hg1 hat1)
   go_ret
   have hb1 : Below w.heap.size w w1 := (zT.alloc zR _).grown hg1 (by simp) (fun k hk => by simp [Value.ownBlock] at hk; omega)
   obtain ⟨A', c', rfl⟩ : ∃ A' c', v1 = .slice A' (0 + n) c' := by
    rcases hown1.2 with ⟨rfl, h0⟩ | ⟨g, cap, cur, rfl, _⟩
    · exact ⟨none, 0, by rw [h0]⟩
    · exact ⟨_, _, rfl⟩
   simp only [Nat.zero_add, List.nil_append] at hown1
   exact ⟨A', c', by simp, hown1, hb1⟩
theorem opsClone_any {w : World} {lo : Option Nat} {s : Sl} {len : Nat} {xs : List Value} (h : SlAt w lo 29 19 296 s len xs) (h1 : ∀ u ∈ xs, u.oneCell' = true) :
 Calls Tryd.prog 39 #[.slice s.A s.n s.c] w fun e w' => ∃ s' : Sl, e = .returned (.slice s'.A s'.n s'.c) ∧ SlAt w' (some w.heap.size) 29 19 296 s' len xs ∧ Below w.heap.size w w' :=
 (opsClone_own s.A s.n s.c w.heap.size xs w h.reads h1 zR h.reach' h.nil).mono fun _ _ ⟨A', c', h1, h2, h3⟩ => ⟨⟨A', s.n, c'⟩, h1, by rw [h.len]; exact SlAt.of_own h2 h.reach, h3⟩

section
variable {w w' : World} {b b' g : Nat} {e : TypeId} {size bytes len n : Nat} {s : Sl} {v : Value} {xs : List Value}
theorem own_lo (h : w.ownsRow b e size v n xs) (hb : b' ≤ b) : w.ownsRow b' e size v n xs := ⟨h.1, h.2.imp id fun ⟨g, cap, cur, h1, h2, h3⟩ => ⟨g, cap, cur, h1, Nat.le_trans hb h2, h3⟩⟩
theorem own_grown (h : w.ownsRow b e size v n xs) (hg : w.grownBy w' (some g)) (hlt : g < b) : w'.ownsRow b e size v n xs := by
 refine h.kept hg ?_
 cases hv : v.ownBlock with
 | none => exact .inl rfl
 | some k =>
   right
   intro he
   injection he with he
   have := (h.lt k hv).1
   omega
theorem SlAt.lo (h : SlAt w (some b) e size bytes s len xs) (hb : b' ≤ b) : SlAt w (some b') e size bytes s len xs :=
 ⟨h.nil, h.le, h.cap, h.reach, h.len, h.reads, fun c hc => by injection hc with hc; subst hc; exact own_lo (h.own b rfl) hb⟩
theorem SlAt.grown (h : SlAt w (some b) e size bytes s len xs) (hg : w.grownBy w' (some g)) (hlt : g < b) : SlAt w' (some b) e size bytes s len xs := by
 have ho := own_grown (h.own b rfl) hg hlt
 exact ⟨h.nil, h.le, h.cap, h.reach, h.len, Reads.of_own ho, fun c hc => by injection hc with hc; subst hc; exact ho⟩
theorem At.lo {x : OpC} {cs : List Value} {lo : Option Nat} (h : At w lo x cs) : ∀ {b b' : Nat}, lo = some b → b' ≤ b → At w (some b') x cs := by
 induction h with
 | mk f d a k0 k1 k2 k3 k4 i s Q ok hd ha hk0 hk1 hk2 hk3 hk4 hi hs _ ih =>
   intro b b' hlo hb
   subst hlo
   exact .mk f d a k0 k1 k2 k3 k4 i s Q ok (hd.lo hb) (ha.lo hb) (hk0.lo hb) (hk1.lo hb) (hk2.lo hb) (hk3.lo hb) (hk4.lo hb) (hi.lo hb) (hs.lo hb) fun q hq => ih q hq rfl hb
theorem At.grown {x : OpC} {cs : List Value} {lo : Option Nat} (h : At w lo x cs) : ∀ {b : Nat}, lo = some b → w.grownBy w' (some g) → g < b → At w' (some b) x cs := by
 induction h with
 | mk f d a k0 k1 k2 k3 k4 i s Q ok hd ha hk0 hk1 hk2 hk3 hk4 hi hs _ ih =>
   intro b hlo hg hlt
   subst hlo
   exact .mk f d a k0 k1 k2 k3 k4 i s Q ok (hd.grown hg hlt) (ha.grown hg hlt) (hk0.grown hg hlt) (hk1.grown hg hlt) (hk2.grown hg hlt) (hk3.grown hg hlt) (hk4.grown hg hlt) (hi.grown hg hlt) (hs.grown hg hlt) fun q hq => ih q hq rfl hg hlt
end
def OpF.rowL (f : OpF) (d a : Sl) (ks : List Sl) (i s : Sl) : List Value := [.int .i32 f.t, .string f.p, d.v, a.v, .int .i32 f.fl, .int .i32 f.ve, .bool f.wa, .int .i64 f.ct, .int .i64 f.by_, .int .i64 f.tl, .int .i64 f.zx] ++ (ks.map Sl.v ++ [.int .i32 f.to, i.v, s.v])
section
variable {f : OpF} {d a d' a' k' i s i' s' : Sl} {ks : List Sl}
theorem rowL_eq (k0 k1 k2 k3 k4 : Sl) : f.row d a k0 k1 k2 k3 k4 i s = f.rowL d a [k0, k1, k2, k3, k4] i s := rfl
theorem list5 {α : Type} {xs : List α} (h : xs.length = 5) : ∃ a0 a1 a2 a3 a4, xs = [a0, a1, a2, a3, a4] := by
 match xs, h with
 | [a0, a1, a2, a3, a4], _ => exact ⟨_, _, _, _, _, rfl⟩
theorem rowL_len (h : ks.length = 5) : (f.rowL d a ks i s).length = 19 := by
 obtain ⟨_, _, _, _, _, rfl⟩ := list5 h
 rfl
theorem rowL_d : (f.rowL d a ks i s).take 2 ++ [d'.v] ++ (f.rowL d a ks i s).drop 3 = f.rowL d' a ks i s := rfl
theorem rowL_a : (f.rowL d a ks i s).take 3 ++ [a'.v] ++ (f.rowL d a ks i s).drop 4 = f.rowL d a' ks i s := rfl
theorem rowL_i (h : ks.length = 5) : (f.rowL d a ks i s).take 17 ++ [i'.v] ++ (f.rowL d a ks i s).drop 18 = f.rowL d a ks i' s := by
 obtain ⟨_, _, _, _, _, rfl⟩ := list5 h
 rfl
theorem rowL_s (h : ks.length = 5) : (f.rowL d a ks i s).take 18 ++ [s'.v] ++ (f.rowL d a ks i s).drop 19 = f.rowL d a ks i s' := by
 obtain ⟨_, _, _, _, _, rfl⟩ := list5 h
 rfl
theorem rowL_k (h : ks.length = 5) {j : Nat} (hj : j < 5) : (f.rowL d a ks i s).take (11 + j) ++ [k'.v] ++ (f.rowL d a ks i s).drop (11 + j + 1) = f.rowL d a (ks.set j k') i s := by
 obtain ⟨_, _, _, _, _, rfl⟩ := list5 h
 rcases (by omega : j = 0 ∨ j = 1 ∨ j = 2 ∨ j = 3 ∨ j = 4) with rfl | rfl | rfl | rfl | rfl <;> rfl
theorem rowL_get (h : ks.length = 5) {j : Nat} (hj : j < ks.length) : (f.rowL d a ks i s).toArray[11 + j]? = some (ks[j]).v := by
 obtain ⟨_, _, _, _, _, rfl⟩ := list5 h
 simp at hj
 rcases (by omega : j = 0 ∨ j = 1 ∨ j = 2 ∨ j = 3 ∨ j = 4) with rfl | rfl | rfl | rfl | rfl <;> rfl
end
structure KSt (w : World) (f : OpF) (d a : Sl) (ks : List Sl) (i s : Sl) (W : World) : Prop where
 blk : Blk W w.heap.size 29 (f.rowL d a ks i s).toArray
 res : ∃ zr, Blk W (w.heap.size + 1) 29 zr ∧ zr.size = 19
 below : Below w.heap.size w W
 size : w.heap.size + 2 ≤ W.heap.size
 len : ks.length = 5
section
variable {w W W' : World} {f : OpF} {d a d' a' k' i s i' s' : Sl} {ks : List Sl} {cs : Array Value} {g : Nat}
theorem KSt.later (h : KSt w f d a ks i s W) (hb : Below W.heap.size W W') : KSt w f d a ks i s W' := by
 obtain ⟨zr, h1, h2⟩ := h.res
 exact ⟨h.blk.below hb h.blk.lt, ⟨zr, h1.below hb h1.lt, h2⟩, h.below.trans (hb.mono h.below.size), Nat.le_trans h.size hb.size, h.len⟩
theorem KSt.put (h : KSt w f d a ks i s W) {ks' : List Sl} (hB : Blk W' w.heap.size 29 cs) (hg : W.grownBy W' (some w.heap.size)) (e : cs.toList = f.rowL d' a' ks' i' s') (hl : ks'.length = 5) : KSt w f d' a' ks' i' s' W' := by
 obtain ⟨zr, h1, h2⟩ := h.res
 have e' : cs = (f.rowL d' a' ks' i' s').toArray := by rw [← e]
 exact ⟨e' ▸ hB, ⟨zr, h1.grown hg (by simp), h2⟩, h.below.grown hg (by have := h.size; omega) (fun k hk => by injection hk with hk; omega), Nat.le_trans h.size hg.size, hl⟩
theorem KSt.far (h : KSt w f d a ks i s W) (hg : W.grownBy W' (some g)) (hlt : w.heap.size + 2 ≤ g) : KSt w f d a ks i s W' := by
 obtain ⟨zr, h1, h2⟩ := h.res
 exact ⟨h.blk.grown hg (by simp; omega), ⟨zr, h1.grown hg (by simp; omega), h2⟩, h.below.grown hg (by have := h.size; omega) (fun k hk => by injection hk with hk; omega), Nat.le_trans h.size hg.size, h.len⟩
theorem KSt.c2 (h : KSt w f d a ks i s W) : W.cell? ⟨w.heap.size, 2, none⟩ = some (.slice d.A d.n d.c) := (h.blk.cell 2).trans rfl
theorem KSt.c3 (h : KSt w f d a ks i s W) : W.cell? ⟨w.heap.size, 3, none⟩ = some (.slice a.A a.n a.c) := (h.blk.cell 3).trans rfl
theorem KSt.c17 (h : KSt w f d a ks i s W) : W.cell? ⟨w.heap.size, 17, none⟩ = some (.slice i.A i.n i.c) := by
 obtain ⟨_, _, _, _, _, rfl⟩ := list5 h.len
 exact (h.blk.cell 17).trans rfl
theorem KSt.c18 (h : KSt w f d a ks i s W) : W.cell? ⟨w.heap.size, 18, none⟩ = some (.slice s.A s.n s.c) := by
 obtain ⟨_, _, _, _, _, rfl⟩ := list5 h.len
 exact (h.blk.cell 18).trans rfl
theorem KSt.ck (h : KSt w f d a ks i s W) {j : Nat} (hj : j < ks.length) : W.cell? ⟨w.heap.size, 11 + j, none⟩ = some (ks[j]).v := (h.blk.cell (11 + j)).trans (rowL_get h.len hj)
theorem KSt.asize (h : KSt w f d a ks i s W) : (f.rowL d a ks i s).toArray.size = 19 := by rw [zO, rowL_len h.len]
end
theorem rows_set : ∀ (R : List (OpC × List Value)) (j : Nat) (q : OpC × List Value), (∀ r ∈ R, r.2.length = 19) → q.2.length = 19 → j < R.length →
 (R.flatMap Prod.snd).take (j * 19) ++ q.2 ++ (R.flatMap Prod.snd).drop (j * 19 + 19) = (R.set j q).flatMap Prod.snd
 | [], j, _, _, _, h => by simp at h
 | r :: R, 0, q, hR, hq, _ => by
   have hr := hR r (by simp)
   rw [zA, List.flatMap_cons, List.flatMap_cons, Nat.zero_mul, List.take_zero, List.nil_append, Nat.zero_add, ← hr, List.drop_left]
 | r :: R, j + 1, q, hR, hq, hj => by
   have hr := hR r (by simp)
   have ih := rows_set R j q (fun x hx => hR x (by simp [hx])) hq (by simpa using hj)
   rw [zB, List.flatMap_cons, List.flatMap_cons, show (j + 1) * 19 = r.2.length + j * 19 by omega, List.take_length_add_append, show r.2.length + j * 19 + 19 = r.2.length + (j * 19 + 19) by omega, List.drop_length_add_append, zL, zL, ← ih]
   simp [zL]

section
variable {P : Program} {ops : Array Oper} {Q : Exit → Act → World → Prop} {C : World → World → Prop} {st : List Nat} {M : Nat → Value → World → Prop}
def waitsB (ops : Array Oper) (i : Nat) : Nat → Nat → Bool
 | 0, _ => false
 | n + 1, j => j == i || ((ops[j]?).map fun o => o.after.toList.any fun e => Region.binds .any e && waitsB ops i n e.on).getD false
theorem waits_not {listed : Array Bool} (hcl : ∀ j o, listed.getD j false = true → ops[j]? = some o → ∀ e ∈ o.after.toList, Region.binds .any e = true → listed.getD e.on false = true) {i : Nat} (hi : listed.getD i false = false) :
 ∀ n j, waitsB ops i n j = true → listed.getD j false = false
 | 0, _, h => by simp [waitsB] at h
 | n + 1, j, h => by
   unfold waitsB at h
   rw [Bool.or_eq_true, beq_iff_eq] at h
   rcases h with rfl | h
   · exact hi
   · rcases ho : ops[j]? with _ | o
     · rw [ho] at h
       cases h
     · rw [ho] at h
       simp only [Option.map_some, Option.getD_some, List.any_eq_true, Bool.and_eq_true] at h
       obtain ⟨e, he, hb, hw⟩ := h
       have h1 := waits_not hcl hi n e.on hw
       rcases hj : listed.getD j false with _ | _
       · rfl
       · rw [hcl j o hj ho e he hb] at h1
         cases h1
def Tt : Value → World → Prop := fun _ _ => True
def AllTt : List (Value ⊕ (Value → World → Prop)) → Prop
 | [] => True
 | .inl _ :: r => AllTt r
 | .inr p :: r => p = Tt ∧ AllTt r
theorem AllTt.mono : ∀ {F : List (Value ⊕ (Value → World → Prop))}, AllTt F → ∀ p, Sum.inr p ∈ F → ∀ v w w', p v w → C w w' → p v w'
 | [], _, p, hp => by cases hp
 | .inl _ :: r, h, p, hp => by
   rcases zH.1 hp with e | e
   · cases e
   · exact AllTt.mono (F := r) h p e
 | .inr q :: r, h, p, hp => by
   rcases zH.1 hp with e | e
   · injection e with e
     subst e
     rw [h.1]
     intro v w w' _ _
     trivial
   · exact AllTt.mono (F := r) h.2 p e
end

section
variable {P : Program} {ops : Array Oper} {Q : Exit → Act → World → Prop}
def Closed (ops : Array Oper) (listed : Array Bool) : Prop := ∀ j o, listed.getD j false = true → ops[j]? = some o → ∀ e ∈ o.after.toList, Region.binds .any e = true → listed.getD e.on false = true
theorem closed_set {listed : Array Bool} (hcl : Closed ops listed) {i : Nat} {oi : Oper} (ho : ops[i]? = some oi) (hil : i < listed.size) (hd : ∀ e ∈ oi.after.toList, Region.binds .any e = true → listed.getD e.on false = true) : Closed ops (listed.setIfInBounds i true) := by
 have hoff : ∀ j, j ≠ i → (listed.setIfInBounds i true).getD j false = listed.getD j false := fun j hij => by
  rw [zP, Array.getElem?_setIfInBounds, if_neg (Ne.symm hij), zP]
 intro j o hj hoj e he hbd
 have h1 : listed.getD e.on false = true := by
  by_cases hji : j = i
  · subst hji
    rw [ho] at hoj
    injection hoj with hoj
    subst hoj
    exact hd e he hbd
  · rw [hoff j hji] at hj
    exact hcl j o hj hoj e he hbd
 by_cases hei : e.on = i
 · rw [hei, zP, Array.getElem?_setIfInBounds, if_pos rfl, if_pos hil]
   rfl
 · rw [hoff _ hei]
   exact h1
def lastU (ops : Array Oper) (n : Nat) : Bool := decide (ops.size = n + 1) && (dstAt ops n).isNone && (List.range n).all fun j => waitsB ops j ops.size n
theorem wpAny_invU {n : Nat} {oL : Oper} {F : Nat → Value → World → Prop} {a0 : Act} {w0 : World} (hb : backB ops = true) (hd : dstsB ops = true) (hs : slotsB ops a0.tmps.size = true) (hl : lastU ops n = true) (hoL : ops[n]? = some oL)
 (hmono : ∀ i v w w', F i v w → Below w.heap.size w w' → F i v w') (hstep : ∀ i o, i < n → ops[i]? = some o → StepOk P ops Q F a0 w0 i o)
 (hend : ∀ a w, Below w0.heap.size w0 w → a.defers = a0.defers → a.tmps.size = a0.tmps.size → (∀ k, (∀ i, dstAt ops i ≠ some k) → a.tmps[k]? = a0.tmps[k]?) → (∀ i k, dstAt ops i = some k → ∃ v, a.tmps[k]? = some v ∧ F i v w) → StepL P ops Q oL a w) :
 ∀ fuel listed a w, RInv ops F a0 w0 listed a w → Closed ops listed → listed.getD n true = false → listed.toList.count false = fuel → wpAny P .any ops Q fuel listed a w := by
 unfold lastU at hl
 rw [Bool.and_eq_true, Bool.and_eq_true, List.all_eq_true] at hl
 obtain ⟨⟨hsz, hdn⟩, hwait⟩ := hl
 have hsz : ops.size = n + 1 := by simpa using hsz
 intro fuel
 induction fuel with
 | zero =>
   intro listed a w h hcl hn hc
   exfalso
   have hnl : n < listed.size := by rw [h.size, hsz]; omega
   have := count_none listed.toList hc n (by rw [Array.length_toList]; exact hnl)
   rw [Array.getElem?_toList] at this
   rw [zP, this] at hn
   simp at hn
 | succ fuel ih =>
   intro listed a w h hcl hn hc
   refine ⟨fun hr => ?_, fun i hi => ?_⟩
   · exfalso
     have := ready_nil hb h.size hr n (by omega)
     rw [hn] at this
     cases this
   have hi2 : i < ops.size ∧ listed.getD i true = false ∧ ((ops[i]?).map (·.after.all fun e => !Region.binds .any e || listed.getD e.on false)).getD false = true := by
    unfold Region.ready at hi
    rw [List.mem_filter, Bool.and_eq_true] at hi
    exact ⟨List.mem_range.1 hi.1, by simpa using hi.2.1, hi.2.2⟩
   obtain ⟨g1, g2, g3⟩ := hi2
   have hil : i < listed.size := by rw [h.size]; exact g1
   have ho : ops[i]? = some ops[i] := Array.getElem?_eq_getElem g1
   rw [ho, Option.map_some, Option.getD_some, zQ] at g3
   have hf : listed.toList[i]? = some false := by
    rw [Array.getElem?_toList, Array.getElem?_eq_getElem hil]
    rw [zP, Array.getElem?_eq_getElem hil] at g2
    simpa using g2
   have hcnt := count_set_true listed.toList i hf
   by_cases hin : i = n
   · subst hin
     have hall : ∀ j, j < i → listed.getD j false = true := fun j hj => by
      have hw := hwait j (List.mem_range.2 hj)
      rw [hsz, waitsB, Bool.or_eq_true, beq_iff_eq] at hw
      rcases hw with hw | hw
      · omega
      rw [ho] at hw
      simp only [Option.map_some, Option.getD_some, List.any_eq_true, Bool.and_eq_true] at hw
      obtain ⟨e, he, hbd, hwe⟩ := hw
      have h1 := g3 e (by simpa using he)
      rw [hbd] at h1
      rcases hj2 : listed.getD j false with _ | _
      · rw [waits_not hcl hj2 _ _ hwe] at h1
        simp at h1
      · rfl
     obtain rfl : ops[i] = oL := by rw [ho] at hoL; injection hoL
     refine wpOp_step ho fun K' hK => ?_
     have hq : StepL P ops Q ops[i] a w := hend a w h.past h.defs h.len h.old fun j k hk => by
      have hj := dstAt_lt hk
      rcases (by omega : j < i ∨ j = i) with hji | rfl
      · exact h.done j (hall j hji) k hk
      · rw [hk] at hdn
        cases hdn
     have hz : ∀ a' w', Q .normal a' w' → wpAny P .any ops Q fuel (listed.setIfInBounds i true) a' w' := fun a' w' hq' => by
      have h0 : fuel = 0 := by
       have hall2 : ∀ j, j < listed.toList.length → (listed.toList.set i true)[j]? = some true := fun j hj => by
        rw [Array.length_toList, h.size, hsz] at hj
        rw [List.getElem?_set]
        split
        · rw [if_pos (by rw [Array.length_toList]; exact hil)]
        · rename_i hne
          have := hall j (by omega)
          have hjl : j < listed.size := by rw [h.size, hsz]; omega
          rw [zP, Array.getElem?_eq_getElem hjl] at this
          rw [Array.getElem?_toList, Array.getElem?_eq_getElem hjl]
          simpa using this
       have hc0 : (listed.toList.set i true).count false = 0 := by
        rw [List.count_eq_zero]
        intro hm
        obtain ⟨j, hj⟩ := List.mem_iff_getElem?.1 hm
        have hjl : j < listed.toList.length := by
         have := (List.getElem?_eq_some_iff.1 hj).1
         simpa using this
        rw [hall2 j hjl] at hj
        cases hj
       omega
      subst h0
      refine ⟨?_, hq'⟩
      unfold Region.ready
      rw [List.filter_eq_nil_iff]
      intro j hj
      have hj' := List.mem_range.1 hj
      have : (listed.setIfInBounds i true).getD j true = true := by
       rw [zP, Array.getElem?_setIfInBounds]
       split
       · rfl
       · have := hall j (by omega)
         have hjl : j < listed.size := by rw [h.size]; exact hj'
         rw [zP, Array.getElem?_eq_getElem hjl] at this
         rw [Array.getElem?_eq_getElem hjl]
         simpa using this
      rw [this]
      simp
     exact hq K' fun a' w' hq' => hK a' w' (hz a' w' hq')
   · refine wpOp_step ho fun K' hK => ?_
     refine hstep i _ (by omega) ho a w h.past h.old (fun e he hbd k hk => ?_) K' fun v w' hv hbl => hK _ _ (ih _ _ _ ?_ (closed_set hcl ho hil fun e he hbd => by have h4 := g3 e (by simpa using he); rw [hbd] at h4; simpa using h4) ?_ ?_)
     · have h4 := g3 e (by simpa using he)
       rw [hbd] at h4
       exact h.done e.on (by simpa using h4) k hk
     · have hdi : dstAt ops i = ops[i].dst := by unfold dstAt; rw [ho]; rfl
       refine ⟨by simp [h.size], h.past.trans (hbl.mono h.past.size), by rw [put_defs]; exact h.defs, by rw [put_len]; exact h.len, fun k hk => ?_, fun j hj k hk => ?_⟩
       · rw [put_tmps _ _ _ _ (by rw [← hdi]; exact hk i)]
         exact h.old k hk
       · by_cases hij : j = i
         · subst hij
           rw [hdi] at hk
           rw [hk]
           refine ⟨v, put_tmps_same _ _ _ ?_, hv⟩
           rw [h.len]
           unfold slotsB at hs
           rw [List.all_eq_true] at hs
           have := hs j (List.mem_range.2 g1)
           rw [hdi, hk] at this
           simpa using this
         · have hj' : listed.getD j false = true := by
            rw [zP, Array.getElem?_setIfInBounds, if_neg (Ne.symm hij)] at hj
            rw [zP]
            exact hj
           obtain ⟨u, hu, hF⟩ := h.done j hj' k hk
           refine ⟨u, ?_, hmono j u w w' hF hbl⟩
           rw [put_tmps _ _ _ _ (fun e => hij (dsts_one hd hk (by rw [hdi]; exact e)))]
           exact hu
     · rw [zP, Array.getElem?_setIfInBounds, if_neg hin]
       rw [zP] at hn
       exact hn
     · rw [Array.toList_setIfInBounds]
       omega
theorem wp_region_last {id : Nat} {a0 : Act} {w0 : World} {l : List Oper} (n : Nat) {oL : Oper} (hoL : l[n]? = some oL) (F : List (Value ⊕ (Value → World → Prop))) (hl : (l.take n).length = F.length) (hm : P.follows .mixedOrders = true) (hb : backB l.toArray = true) (hd : dstsB l.toArray = true) (hs : slotsB l.toArray a0.tmps.size = true) (hla : lastU l.toArray n = true)
 (hmono : ∀ p, Sum.inr p ∈ F → ∀ v w w', p v w → Below w.heap.size w w' → p v w') (hstep : StepsOk P l.toArray Q (FL F) a0 w0 0 (l.take n))
 (hend : ∀ w, Below w0.heap.size w0 w → Fin (l.take n) F a0 w (fun a w => StepL P l.toArray Q oL a w)) : (Code.region id l.toArray true).wp P Q a0 w0 := by
 refine wp_region_any hm ?_
 have hla' := hla
 unfold lastU at hla'
 rw [Bool.and_eq_true, Bool.and_eq_true] at hla'
 obtain ⟨⟨hsz, hdn⟩, _⟩ := hla'
 have hsz : l.length = n + 1 := by simpa using hsz
 refine wpAny_invU (n := n) (oL := oL) (a0 := a0) (w0 := w0) hb hd hs hla (by simpa using hoL) (FL.mono hmono) (fun i o hi h => stepsN_get hstep i o hi (by simpa using h)) ?_ _ _ _ _ ⟨by simp, zT.drew, rfl, rfl, fun _ _ => rfl, fun i hi => ?_⟩ (fun i o hi => ?_) ?_ (by simp)
 · intro a w hbl h1 h2 h3 h4
   refine fin_of (K := fun a w => StepL P l.toArray Q oL a w) (l.take n) F a0 a hl h1 h2 (fun k hk => h3 k fun i hi => ?_) (fun i k hk => h4 i k (dstAt_take hk)) (hend w hbl)
   have hil := dstAt_lt hi
   have hil' : i < n + 1 := by simpa [hsz] using hil
   rcases (by omega : i < n ∨ i = n) with hin | rfl
   · refine hk i ?_
     unfold dstAt at hi ⊢
     simp only [List.getElem?_toArray, List.getElem?_take, if_pos hin] at hi ⊢
     exact hi
   · rw [hi] at hdn
     cases hdn
 · exfalso
   rw [zP, Array.getElem?_replicate] at hi
   split at hi
   · cases hi
   · cases hi
 · exfalso
   rw [zP, Array.getElem?_replicate] at hi
   split at hi
   · cases hi
   · cases hi
 · rw [zP, Array.getElem?_replicate, if_pos (by rw [zO]; omega)]
   rfl
end

theorem KSt.start {w : World} {f : OpF} {d a i s : Sl} {ks : List Sl} {cs old : Array Value} (hcs : cs = (f.rowL d a ks i s).toArray) (hl : ks.length = 5) (ho : old.size = 19) : KSt w f d a ks i s ((w.alloc (.cells cs 29)).alloc (.cells old 29)) :=
 ⟨by rw [hcs]; exact (Blk.new _ _ _).alloc _, ⟨old, Blk.new' (by simp), ho⟩, (zT.alloc zR _).alloc (by simp) _, by simp, hl⟩
theorem KSt.kv {w W : World} {f : OpF} {d a i s : Sl} {ks : List Sl} (h : KSt w f d a ks i s W) : ∀ j v, (ks.map Sl.v)[j]? = some v → W.cell? ((⟨w.heap.size, 11, none⟩ : Addr).add j) = some v := fun j v hv => by
 rw [zN]
 rw [List.getElem?_map] at hv
 cases hk : ks[j]? with
 | none => rw [hk] at hv; cases hv
 | some k =>
   rw [hk] at hv
   obtain ⟨hj, rfl⟩ := List.getElem?_eq_some_iff.1 hk
   injection hv with hv
   rw [← hv]
   exact h.ck hj
def KLs (w : World) (f : OpF) (ks0 ks : List Sl) (j : Nat) (W : World) : Prop :=
 (∀ z (h : z < ks.length) (h5 : z < 5), z < j → SlAt W (some (w.heap.size + 2)) 9 1 16 ks[z] (f.lists[z]'h5).length (strCells (f.lists[z]'h5))) ∧ (∀ z, j ≤ z → ks[z]? = ks0[z]?)
theorem KLs.later {w W W' : World} {f : OpF} {ks0 ks : List Sl} {j : Nat} (h : KLs w f ks0 ks j W) (hb : Below W.heap.size W W') : KLs w f ks0 ks j W' := ⟨fun z hz h5 hj => (h.1 z hz h5 hj).later hb, h.2⟩
theorem KLs.grown {w W W' : World} {f : OpF} {ks0 ks : List Sl} {j g : Nat} (h : KLs w f ks0 ks j W) (hg : W.grownBy W' (some g)) (hlt : g < w.heap.size + 2) : KLs w f ks0 ks j W' := ⟨fun z hz h5 hj => (h.1 z hz h5 hj).grown hg hlt, h.2⟩
theorem KLs.set {w W : World} {f : OpF} {ks0 ks : List Sl} {j : Nat} {k' : Sl} (h : KLs w f ks0 ks j W) (hj : j < 5) (hk : SlAt W (some (w.heap.size + 2)) 9 1 16 k' (f.lists[j]'hj).length (strCells (f.lists[j]'hj))) : KLs w f ks0 (ks.set j k') (j + 1) W := by
 refine ⟨fun z hz h5 hzj => ?_, fun z hz => ?_⟩
 · rw [List.length_set] at hz
   rw [List.getElem_set]
   split
   · rename_i e
     subst e
     exact hk
   · exact h.1 z hz h5 (by omega)
 · rw [List.getElem?_set_ne (by omega)]
   exact h.2 z (by omega)
def Cloned (w : World) (x : OpC) (e : Ending) (w' : World) : Prop := ∃ cs' : List Value, e = .returned (.agg cs'.toArray) ∧ At w' (some w.heap.size) x cs' ∧ Below w.heap.size w w'
structure RSt (w : World) (b g : Nat) (c n : Nat) (Q R : List (OpC × List Value)) (j : Nat) (W : World) : Prop where
 own : W.ownsRow b 29 19 (.slice (some ⟨g, 0, none⟩) n c) n (R.flatMap Prod.snd)
 len : R.length = Q.length
 fst : R.map Prod.fst = Q.map Prod.fst
 low : b ≤ g
 done : ∀ z (h : z < R.length), z < j → At W (some (g + 1)) (R[z]).1 (R[z]).2
 rest : ∀ z, j ≤ z → R[z]? = Q[z]?
 rows : ∀ r ∈ R, r.2.length = 19
theorem RSt.later {w W W' : World} {b g c n j : Nat} {Q R : List (OpC × List Value)} (h : RSt w b g c n Q R j W) (hb : Below W.heap.size W W') : RSt w b g c n Q R j W' :=
 ⟨own_below h.own hb, h.len, h.fst, h.low, fun z hz hj => (h.done z hz hj).later hb, h.rest, h.rows⟩
theorem RSt.row {w W : World} {b g c n j : Nat} {Q R : List (OpC × List Value)} (h : RSt w b g c n Q R j W) {z : Nat} (hz : z < R.length) (hn : R.length = n) : ∀ k v, (R[z]).2[k]? = some v → W.cell? ((⟨g, z * 19, none⟩ : Addr).add k) = some v := fun k v hv => by
 have hr := Reads.of_own h.own
 obtain ⟨ad, hA, _, hc⟩ := hr.2 (by omega)
 injection hA with hA
 subst hA
 have hk19 : k < 19 := by
  have := (List.getElem?_eq_some_iff.1 hv).1
  rwa [h.rows _ (List.getElem_mem hz)] at this
 have := hc (z * 19 + k) v ((subs_row R h.rows z hz k hk19).trans hv)
 rw [zN] at this ⊢
 rw [Nat.zero_add] at this
 exact this
theorem RSt.grown {w W W' : World} {b g g' c n j : Nat} {Q R : List (OpC × List Value)} (h : RSt w b g c n Q R j W) (hg : W.grownBy W' (some g')) (hlt : g' < b) : RSt w b g c n Q R j W' :=
 ⟨own_grown h.own hg hlt, h.len, h.fst, h.low, fun z hz hj => (h.done z hz hj).grown rfl hg (by have := h.low; omega), h.rest, h.rows⟩
theorem RSt.blk {w W : World} {b g c n j : Nat} {Q R : List (OpC × List Value)} (h : RSt w b g c n Q R j W) (hn : R.length = n) : ∃ cur, Blk W g 29 cur ∧ n * 19 ≤ cur.size ∧ cur.toList.take (n * 19) = R.flatMap Prod.snd ∧ n ≤ c ∧ c ≤ maxLen ∧ cur.size = c * 19 := by
 rcases h.own.2 with ⟨h1, h2⟩ | ⟨g', cap, cur, h1, h2, h3, h4, h5, h6, h7⟩
 · cases h1
 · injection h1 with h1 _ h1'
   injection h1 with h1
   injection h1 with h1
   subst h1 h1'
   exact ⟨cur, h3, by rw [h6]; exact Nat.mul_le_mul_right _ h4, h7, h4, h5, h6⟩
theorem RSt.set {w W W' : World} {b g c n j : Nat} {Q R : List (OpC × List Value)} (h : RSt w b g c n Q R j W) (hn : R.length = n) (hj : j < R.length) {x : OpC} {xc : List Value} (hx : At W (some (g + 1)) x xc) (hxe : x = (R[j]).1) {cur cur' : Array Value} (hcur : Blk W g 29 cur) (hB : Blk W' g 29 cur') (hl : cur'.toList = cur.toList.take (j * 19) ++ xc ++ cur.toList.drop (j * 19 + xc.length)) (hg : W.grownBy W' (some g)) :
 RSt w b g c n Q (R.set j (x, xc)) (j + 1) W' := by
 obtain ⟨cur0, h1, h2, h3, h4, h5, h6⟩ := h.blk hn
 have e : cur0 = cur := by
  unfold Blk at h1 hcur
  rw [h1] at hcur
  injection hcur with hcur
  injection hcur
 subst e
 have hxl : xc.length = 19 := hx.len
 have hrow := rows_set R j (x, xc) h.rows hxl hj
 have hfl : ∀ (R : List (OpC × List Value)), (∀ r ∈ R, r.2.length = 19) → (R.flatMap Prod.snd).length = R.length * 19 := fun R => by
  induction R with
  | nil => intro _; rfl
  | cons r R ih =>
    intro h
    rw [List.flatMap_cons, zG, ih (fun x hx => h x (by simp [hx])), h r (by simp), zM]
    omega
 have hR := hfl R h.rows
 have hlen' : cur'.toList.length = cur0.toList.length := by
  rw [hl, zG, zG, List.length_take, List.length_drop, hxl, Array.length_toList]
  omega
 refine ⟨⟨?_, .inr ⟨g, c, cur', rfl, h.low, hB, h4, h5, ?_, ?_⟩⟩, by simp [h.len], ?_, h.low, fun z hz hzj => ?_, fun z hz => ?_, fun r hr => ?_⟩
 · rw [← hrow, ← h3]
   dsimp only
   simp only [zG, List.length_take, List.length_drop, Array.length_toList, hxl]
   omega
 · rw [← h6]
   simpa using hlen'
 · rw [← hrow, hl, ← h3]
   dsimp only
   apply List.ext_getElem?
   intro k
   simp only [List.getElem?_append, zG, List.length_take, Array.length_toList, List.getElem?_take, List.getElem?_drop, hxl]
   have e1 : min (j * 19) cur0.size = j * 19 := by omega
   have e2 : min (j * 19) (min (n * 19) cur0.size) = j * 19 := by omega
   rw [e1, e2]
   by_cases k1 : k < j * 19
   · simp only [if_pos k1, if_pos (show k < j * 19 + 19 by omega)]
     try (split <;> first | rfl | omega)
   · by_cases k2 : k < j * 19 + 19
     · simp only [if_neg k1, if_pos k2, if_pos (show k < n * 19 by omega)]
     · simp only [if_neg k1, if_neg k2]
       by_cases k3 : k < n * 19
       · rw [if_pos k3, if_pos (by omega)]
       · rw [if_neg k3, if_neg (by omega)]
 · rw [List.map_set, h.fst, hxe]
   apply List.ext_getElem?
   intro k
   rw [List.getElem?_set]
   split
   · rename_i e
     subst e
     rw [← h.fst]
     simp [hj]
   · rfl
 · rw [List.length_set] at hz
   rw [List.getElem_set]
   split
   · rename_i e
     subst e
     exact hx.grown rfl hg (by omega)
   · exact (h.done z hz (by omega)).grown rfl hg (by omega)
 · rw [List.getElem?_set_ne (by omega)]
   exact h.rest z (by omega)
 · rcases List.mem_or_eq_of_mem_set hr with hr | rfl
   · exact h.rows r hr
   · exact hxl

theorem SlAt.other {w w' : World} {b g : Nat} {e t : TypeId} {size bytes len : Nat} {s : Sl} {xs : List Value} {cs : Array Value} (h : SlAt w (some b) e size bytes s len xs) (hg : w.grownBy w' (some g)) (hB : Blk w g t cs) (hne : e ≠ t) : SlAt w' (some b) e size bytes s len xs := by
 have ho := (h.own b rfl).kept hg (.inr (own_blk_ne (h.own b rfl) hB hne))
 exact ⟨h.nil, h.le, h.cap, h.reach, h.len, Reads.of_own ho, fun c hc => by injection hc with hc; subst hc; exact ho⟩
theorem KLs.other {w W W' : World} {f : OpF} {ks0 ks : List Sl} {j g : Nat} {t : TypeId} {cs : Array Value} (h : KLs w f ks0 ks j W) (hg : W.grownBy W' (some g)) (hB : Blk W g t cs) (hne : 9 ≠ t) : KLs w f ks0 ks j W' := ⟨fun z hz h5 hj => (h.1 z hz h5 hj).other hg hB hne, h.2⟩
theorem clone_end {w W : World} {f : OpF} {s1 s2 s3 s4 m0 m1 m2 m3 m4 : Sl} {ks0 : List Sl} {Q R : List (OpC × List Value)} (ok : f.Ok) (hk : KLs w f ks0 [m0, m1, m2, m3, m4] 5 W)
 (h1 : SlAt W (some (w.heap.size + 2)) 5 1 1 s1 f.l.length (bcells f.l)) (h2 : SlAt W (some (w.heap.size + 2)) 74 3 40 s2 f.L.length (aclCells f.L)) (h3 : SlAt W (some (w.heap.size + 2)) 72 2 32 s3 f.I.length (idCells f.I))
 (h4 : SlAt W (some (w.heap.size + 2)) 29 19 296 s4 R.length (R.flatMap Prod.snd)) (hR : ∀ r ∈ R, At W (some (w.heap.size + 2)) r.1 r.2) (hf : R.map Prod.fst = Q.map Prod.fst) :
 At W (some (w.heap.size + 2)) (.mk f (Q.map Prod.fst)) (f.rowL s1 s2 [m0, m1, m2, m3, m4] s3 s4) := by
 rw [← rowL_eq, ← hf]
 exact .mk f s1 s2 m0 m1 m2 m3 m4 s3 s4 R ok h1 h2 (hk.1 0 (by simp) (by decide) (by decide)) (hk.1 1 (by simp) (by decide) (by decide)) (hk.1 2 (by simp) (by decide) (by decide)) (hk.1 3 (by simp) (by decide) (by decide)) (hk.1 4 (by simp) (by decide) (by decide)) h3 h4 hR
theorem rowL_one {f : OpF} {d a i s : Sl} {ks : List Sl} (h : ks.length = 5) : (f.rowL d a ks i s).toArray.all (·.oneCell') = true := by
 obtain ⟨_, _, _, _, _, rfl⟩ := list5 h
 simp [OpF.rowL, Sl.v, Value.oneCell']

theorem clone_walk {lo : Option Nat} (f : OpF) (d a k0 k1 k2 k3 k4 i s : Sl) (Q : List (OpC × List Value)) (w : World) (ok : f.Ok) (h : FAt w lo f d a k0 k1 k2 k3 k4 i) (hs : SlAt w lo 29 19 296 s Q.length (Q.flatMap Prod.snd)) (hQ : ∀ q ∈ Q, At w lo q.1 q.2)
 (IH : ∀ q ∈ Q, ∀ W, Below w.heap.size w W → Calls Tryd.prog 19 #[.agg q.2.toArray] W (Cloned W q.1)) (cs : Array Value) (hcs : cs = (f.row d a k0 k1 k2 k3 k4 i s).toArray) :
 Calls Tryd.prog 19 #[.agg cs] w (Cloned w (.mk f (Q.map Prod.fst))) := by
 obtain ⟨w1, hw1⟩ := xa w cs 29
 have HW1 := Hi hw1.symm
 have hz1 : w1.heap.size = w.heap.size + 1 := by rw [← hw1]; simp
 have HCS : Hid (cs = (f.rowL d a [k0, k1, k2, k3, k4] i s).toArray) := hcs
 have HD : Hid (∀ W, Below w.heap.size w W → Calls Tryd.prog 35 #[.slice d.A d.n d.c] W fun e w' => ∃ s' : Sl, e = .returned (.slice s'.A s'.n s'.c) ∧ SlAt w' (some W.heap.size) 5 1 1 s' f.l.length (bcells f.l) ∧ Below W.heap.size W w') := fun W hW => bytesClone_any (h.d.later hW) (bcells_one _)
 have HA : Hid (∀ W, Below w.heap.size w W → Calls Tryd.prog 36 #[.slice a.A a.n a.c] W fun e w' => ∃ s' : Sl, e = .returned (.slice s'.A s'.n s'.c) ∧ SlAt w' (some W.heap.size) 74 3 40 s' f.L.length (aclCells f.L) ∧ Below W.heap.size W w') := fun W hW => aclsClone_any (h.a.later hW) (aclCells_one _)
 have HI : Hid (∀ W, Below w.heap.size w W → Calls Tryd.prog 37 #[.slice i.A i.n i.c] W fun e w' => ∃ s' : Sl, e = .returned (.slice s'.A s'.n s'.c) ∧ SlAt w' (some W.heap.size) 72 2 32 s' f.I.length (idCells f.I) ∧ Below W.heap.size W w') := fun W hW => idsClone_any (h.i.later hW) (idCells_one _)
 have HSS : Hid (∀ W, Below w.heap.size w W → Calls Tryd.prog 39 #[.slice s.A s.n s.c] W fun e w' => ∃ s' : Sl, e = .returned (.slice s'.A s'.n s'.c) ∧ SlAt w' (some W.heap.size) 29 19 296 s' Q.length (Q.flatMap Prod.snd) ∧ Below W.heap.size W w') := fun W hW => opsClone_any (hs.later hW) (opCells_one hQ)
 have HKS : Hid (∀ j (hj : j < 5) W, Below w.heap.size w W → SlAt W lo 9 1 16 ([k0, k1, k2, k3, k4][j]'hj) (f.lists[j]'hj).length (strCells (f.lists[j]'hj))) := fun j hj W hW => by
  rcases (by omega : j = 0 ∨ j = 1 ∨ j = 2 ∨ j = 3 ∨ j = 4) with rfl | rfl | rfl | rfl | rfl
  · exact h.k0.later hW
  · exact h.k1.later hW
  · exact h.k2.later hW
  · exact h.k3.later hW
  · exact h.k4.later hW
 have HQ := Hi hQ
 have HIH := Hi IH
 have HOK := Hi ok
 have HSQ : Hid (Q.length = s.n) := hs.len
 have HREA : Hid (s.n * 296 ≤ reachBytes) := hs.reach
 clear hcs h hs hQ IH ok
 go_enter Tryd.func19, Tryd.ntmps19
 go_wp2_with (first
  | (refine wpList_new rfl 29 rfl zer_op ?_
     intro old hold
     obtain ⟨w2, hw2⟩ := xa w1 old 29
     rw [hw2]
     have HK2 : Hid (KSt w f d a [k0, k1, k2, k3, k4] i s w2) := by unfold Hid; rw [← hw2, ← hw1]; exact KSt.start HCS.out rfl hold
     have q2 := HK2.out.c2
     clear hw2 hold)
  | (go_at_call 35
     refine (HD.out _ HK2.out.below).mono ?_
     rintro e u3 ⟨s1, rfl, hs1, hb⟩
     have Hs1 := Hi (hs1.lo HK2.out.size)
     have HK3 := Hi (HK2.out.later hb)
     clear hb hs1 q2)
  | (with_reducible refine wpSt 10 ?_
     refine wpList_store_mid rfl 22 (.tmp 10) (.tmp 9) rfl w.heap.size 2 (.slice s1.A s1.n s1.c) rfl rfl HK3.out.blk (news := [.slice s1.A s1.n s1.c]) rfl isz_22 (by rw [HK3.out.asize]; exact (by decide : 2 + 1 ≤ 19)) (by simp [Value.oneCell']) ?_
     intro wn cn hBn hxn hgn hzn
     have HK4 : Hid (KSt w f s1 a [k0, k1, k2, k3, k4] i s wn) := HK3.out.put hBn hgn (hxn.trans rowL_d) HK3.out.len
     have HS1 := Hi (Hs1.out.grown hgn (by omega))
     have q3 := HK4.out.c3
     clear hBn hxn hgn hzn)
  | (go_at_call 36
     refine (HA.out _ HK4.out.below).mono ?_
     rintro e u5 ⟨s2, rfl, hs2, hb⟩
     have Hs2 := Hi (hs2.lo HK4.out.size)
     have HK5 := Hi (HK4.out.later hb)
     have HS1a := Hi (HS1.out.later hb)
     clear hb hs2 q3)
  | (with_reducible refine wpSt 14 ?_
     refine wpList_store_mid rfl 23 (.tmp 14) (.tmp 13) rfl w.heap.size 3 (.slice s2.A s2.n s2.c) rfl rfl HK5.out.blk (news := [.slice s2.A s2.n s2.c]) rfl isz_23 (by rw [HK5.out.asize]; exact (by decide : 3 + 1 ≤ 19)) (by simp [Value.oneCell']) ?_
     intro wn cn hBn hxn hgn hzn
     have HK6 : Hid (KSt w f s1 s2 [k0, k1, k2, k3, k4] i s wn) := HK5.out.put hBn hgn (hxn.trans rowL_a) HK5.out.len
     have HS1b := Hi (HS1a.out.grown hgn (by omega))
     have HS2 := Hi (Hs2.out.grown hgn (by omega))
     have q17 := HK6.out.c17
     clear hBn hxn hgn hzn)
  | (go_at_call 37
     refine (HI.out _ HK6.out.below).mono ?_
     rintro e u7 ⟨s3, rfl, hs3, hb⟩
     have Hs3 := Hi (hs3.lo HK6.out.size)
     have HK7 := Hi (HK6.out.later hb)
     have HS1c := Hi (HS1b.out.later hb)
     have HS2a := Hi (HS2.out.later hb)
     clear hb hs3 q17)
  | (with_reducible refine wpSt 18 ?_
     refine wpList_store_mid rfl 26 (.tmp 18) (.tmp 17) rfl w.heap.size 17 (.slice s3.A s3.n s3.c) rfl rfl HK7.out.blk (news := [.slice s3.A s3.n s3.c]) rfl isz_26 (by rw [HK7.out.asize]; exact (by decide : 17 + 1 ≤ 19)) (by simp [Value.oneCell']) ?_
     intro wn cn hBn hxn hgn hzn
     have HK8 : Hid (KSt w f s1 s2 [k0, k1, k2, k3, k4] s3 s wn) := HK7.out.put hBn hgn (hxn.trans (rowL_i HK7.out.len)) HK7.out.len
     have HS1d := Hi (HS1c.out.grown hgn (by omega))
     have HS2b := Hi (HS2a.out.grown hgn (by omega))
     have HS3 := Hi (Hs3.out.grown hgn (by omega))
     clear hBn hxn hgn hzn)
  | (refine wpList_load_at (by rfl) 25 (.tmp 19) rfl ⟨w.heap.size, 11, none⟩ rfl [k0.v, k1.v, k2.v, k3.v, k4.v] _ HK8.out.kv zU25 rfl isz_25 ?_))
 clear HK2 HK3 HK4 HK5 HK6 HK7 HD HA HI HS1 HS1a HS1b HS1c HS2 HS2a Hs1 Hs2 Hs3
 go_loopw [21] (fun v21 wr => ∃ (j : Nat) (ks : List Sl), j ≤ 5 ∧ v21 = .int .i64 j ∧ Hid (KSt w f s1 s2 ks s3 s wr) ∧ Hid (KLs w f [k0, k1, k2, k3, k4] ks j wr) ∧ Hid (SlAt wr (some (w.heap.size + 2)) 5 1 1 s1 f.l.length (bcells f.l)) ∧ Hid (SlAt wr (some (w.heap.size + 2)) 74 3 40 s2 f.L.length (aclCells f.L)) ∧ Hid (SlAt wr (some (w.heap.size + 2)) 72 2 32 s3 f.I.length (idCells f.I))) (fun v21 _ => 5 - (intOf v21).toNat)
 case atStart => exact ⟨0, [k0, k1, k2, k3, k4], by omega, rfl, HK8.out, ⟨fun z _ _ hz => absurd hz (by omega), fun z _ => rfl⟩, HS1d.out, HS2b.out, HS3.out⟩
 case round =>
  clear HK8 HS1d HS2b HS3
  obtain ⟨j, ks, hj, rfl, HKr, HLr, HS1r, HS2r, HS3r⟩ := hrel
  by_cases hlt : j < 5
  · have hix : ∀ W, (Instr.index 25 (.agg #[k0.v, k1.v, k2.v, k3.v, k4.v]) (.int .i64 (j : Int))).run Tryd.prog W = .ok (([k0, k1, k2, k3, k4][j]'hlt).v) W := fun W => by
     rcases (by omega : j = 0 ∨ j = 1 ∨ j = 2 ∨ j = 3 ∨ j = 4) with rfl | rfl | rfl | rfl | rfl <;> kernel_rfl
    have hk := HKS.out j hlt
    obtain ⟨kj, hkj⟩ : ∃ k, k = ([k0, k1, k2, k3, k4][j]'hlt) := ⟨_, rfl⟩
    rw [← hkj] at hix hk
    have hix2 : ∀ W, (Instr.index 25 (.agg #[k0.v, k1.v, k2.v, k3.v, k4.v]) (.int .i64 (j : Int))).run Tryd.prog W = .ok (.slice kj.A kj.n kj.c) W := hix
    clear hix
    have HC : Hid (∀ W, Below w.heap.size w W → Calls Tryd.prog 38 #[.slice kj.A kj.n kj.c] W fun e w' => ∃ s' : Sl, e = .returned (.slice s'.A s'.n s'.c) ∧ SlAt w' (some W.heap.size) 9 1 16 s' (f.lists[j]'hlt).length (strCells (f.lists[j]'hlt)) ∧ Below W.heap.size W w') := fun W hW => strsClone_any (hk W hW) (strCells_one _)
    clear hk hkj
    go_wp2_with (first
     | (go_at_call 38
        refine (HC.out _ HKr.out.below).mono ?_
        rintro e u ⟨k', rfl, hk', hb⟩
        have HK' := Hi (hk'.lo HKr.out.size)
        have HKs := Hi (HKr.out.later hb)
        have HLs := Hi (HLr.out.later hb)
        have HS1s := Hi (HS1r.out.later hb)
        have HS2s := Hi (HS2r.out.later hb)
        have HS3s := Hi (HS3r.out.later hb)
        clear hb hk')
     | (with_reducible refine wpSt 29 ?_
        refine wpList_store_mid rfl 24 (.tmp 29) (.tmp 27) rfl w.heap.size (11 + j) (.slice k'.A k'.n k'.c) rfl rfl HKs.out.blk (news := [.slice k'.A k'.n k'.c]) rfl isz_24 (by rw [HKs.out.asize]; show 11 + j + 1 ≤ 19; omega) (by simp [Value.oneCell']) ?_
        intro wn cn hBn hxn hgn hzn
        have HKt : Hid (KSt w f s1 s2 (ks.set j k') s3 s wn) := HKs.out.put hBn hgn (hxn.trans (rowL_k HKs.out.len hlt)) (by rw [List.length_set]; exact HKs.out.len)
        have HLt : Hid (KLs w f [k0, k1, k2, k3, k4] (ks.set j k') (j + 1) wn) := (HLs.out.grown hgn (by omega)).set hlt (HK'.out.grown hgn (by omega))
        have HS1t := Hi (HS1s.out.grown hgn (by omega))
        have HS2t := Hi (HS2s.out.grown hgn (by omega))
        have HS3t := Hi (HS3s.out.grown hgn (by omega))
        clear hBn hxn hgn hzn))
    go_roundw
    case rel => exact ⟨j + 1, ks.set j k', by omega, by go_num, HKt.out, HLt.out, HS1t.out, HS2t.out, HS3t.out⟩
    case measure => simp [intOf]; omega
  · obtain rfl : j = 5 := by omega
    obtain ⟨m0, m1, m2, m3, m4, hks⟩ := list5 HKr.out.len
    subst hks
    clear hlt hj
    have q18 := HKr.out.c18
    by_cases hn0 : s.n = 0
    · have hnn : ((s.n : Nat) : Int) = 0 := by omega
      have HQN : Hid (Q = []) := List.eq_nil_of_length_eq_zero (by rw [HSQ.out]; exact hn0)
      have HN0 := Hi hn0
      clear hn0 hnn
      go_wp2_with (first
       | (go_at_call 39
          refine (HSS.out _ HKr.out.below).mono ?_
          rintro e u ⟨s4, rfl, hs4, hb⟩
          have HS4 := Hi (hs4.lo HKr.out.size)
          have HKs := Hi (HKr.out.later hb)
          have HLs := Hi (HLr.out.later hb)
          have HS1s := Hi (HS1r.out.later hb)
          have HS2s := Hi (HS2r.out.later hb)
          have HS3s := Hi (HS3r.out.later hb)
          have H40 : Hid (s4.n = 0) := by unfold Hid; rw [← hs4.len, HSQ.out]; exact HN0.out
          clear hb hs4 q18)
       | (with_reducible refine wpSt 34 ?_
          refine wpList_store_mid rfl 27 (.tmp 34) (.tmp 33) rfl w.heap.size 18 (.slice s4.A s4.n s4.c) rfl rfl HKs.out.blk (news := [.slice s4.A s4.n s4.c]) rfl isz_27 (by rw [HKs.out.asize]; exact (by decide : 18 + 1 ≤ 19)) (by simp [Value.oneCell']) ?_
          intro wn cn hBn hxn hgn hzn
          have HKt : Hid (KSt w f s1 s2 [m0, m1, m2, m3, m4] s3 s4 wn) := HKs.out.put hBn hgn (hxn.trans (rowL_s HKs.out.len)) HKs.out.len
          have HLt := Hi (HLs.out.grown hgn (by omega))
          have HS1t := Hi (HS1s.out.grown hgn (by omega))
          have HS2t := Hi (HS2s.out.grown hgn (by omega))
          have HS3t := Hi (HS3s.out.grown hgn (by omega))
          have HS4t := Hi (HS4.out.grown hgn (by omega))
          have q18 := HKt.out.c18
          clear hBn hxn hgn hzn))
      have HAT : Hid (At wn (some (w.heap.size + 2)) (.mk f (Q.map Prod.fst)) (f.rowL s1 s2 [m0, m1, m2, m3, m4] s3 s4)) :=
       clone_end HOK.out HLt.out HS1t.out HS2t.out HS3t.out HS4t.out (fun r hr => by rw [HQN.out] at hr; cases hr) rfl
      clear HKr HLr HS1r HS2r HS3r
      refine wp_loop_rounds 1 ?_
      rw [rounds_succ]
      clear q18 HKs HLs HS1s HS2s HS3s HS4 HS1t HS2t HS3t HS4t HLt
      have HKr := HKt
      have h40 := H40.out
      obtain ⟨zr, hz1', hz2'⟩ := HKr.out.res
      have HZR := Hi hz1'
      have hzs : zr.size = 19 := hz2'
      have HINF : Hid ((Tryd.prog.info? 29).map (·.size) = some (f.rowL s1 s2 [m0, m1, m2, m3, m4] s3 s4).toArray.size) := by unfold Hid; rw [HKr.out.asize]; exact isz_29
      have HZS : Hid (zr.size = (f.rowL s1 s2 [m0, m1, m2, m3, m4] s3 s4).toArray.size) := by unfold Hid; rw [HKr.out.asize]; exact hzs
      clear hz1' hz2' hzs
      go_wp2_with (first
       | (refine wpList_load_row rfl 29 (.tmp 1) rfl w.heap.size rfl 29 _ _ _ HKr.out.blk zU29 rfl HINF.out ?_)
       | (refine wpList_store_row rfl 29 (.tmp 2) (.tmp 50) rfl (w.heap.size + 1) _ rfl rfl 29 _ HZR.out HINF.out HZS.out (rowL_one rfl) ?_
          generalize hww : World.setRow _ _ _ = wz
          have HGZ : Hid (wn.grownBy wz (some (w.heap.size + 1))) := by unfold Hid; rw [← hww]; exact only_setRow' _ _ _
          have HBZ : Hid (Blk wz (w.heap.size + 1) 29 (f.rowL s1 s2 [m0, m1, m2, m3, m4] s3 s4).toArray) := by unfold Hid; rw [← hww]; exact cells_setRow HZR.out
          clear hww))
      refine bodyPost_ret (results_cell_row rfl _ _ (w.heap.size + 1) 29 _ _ _ rfl HBZ.out zU29 rfl HINF.out) rfl ?_
      exact ⟨_, rfl, (HAT.out.grown rfl HGZ.out (by omega)).lo rfl (by omega), HKr.out.below.grown HGZ.out (by have := HKr.out.size; omega) (fun k hk => by injection hk with hk; omega)⟩
    have HN0 : Hid (0 < s.n) := Nat.pos_of_ne_zero hn0
    clear hn0
    go_wp2_with (first
     | (go_at_call 39
        refine (HSS.out _ HKr.out.below).mono ?_
        rintro e u ⟨s4, rfl, hs4, hb⟩
        have HS4 := Hi (hs4.lo HKr.out.size)
        have HKs := Hi (HKr.out.later hb)
        have HLs := Hi (HLr.out.later hb)
        have HS1s := Hi (HS1r.out.later hb)
        have HS2s := Hi (HS2r.out.later hb)
        have HS3s := Hi (HS3r.out.later hb)
        clear hb hs4 q18)
     | (with_reducible refine wpSt 34 ?_
        refine wpList_store_mid rfl 27 (.tmp 34) (.tmp 33) rfl w.heap.size 18 (.slice s4.A s4.n s4.c) rfl rfl HKs.out.blk (news := [.slice s4.A s4.n s4.c]) rfl isz_27 (by rw [HKs.out.asize]; exact (by decide : 18 + 1 ≤ 19)) (by simp [Value.oneCell']) ?_
        intro wn cn hBn hxn hgn hzn
        have HKt : Hid (KSt w f s1 s2 [m0, m1, m2, m3, m4] s3 s4 wn) := HKs.out.put hBn hgn (hxn.trans (rowL_s HKs.out.len)) HKs.out.len
        have HLt := Hi (HLs.out.grown hgn (by omega))
        have HS1t := Hi (HS1s.out.grown hgn (by omega))
        have HS2t := Hi (HS2s.out.grown hgn (by omega))
        have HS3t := Hi (HS3s.out.grown hgn (by omega))
        have HS4t := Hi (HS4.out.grown hgn (by omega))
        have q18 := HKt.out.c18
        clear hBn hxn hgn hzn))
    have h4l : s4.n = Q.length := HS4t.out.len.symm
    obtain ⟨g, c4, h4v, h4b⟩ : ∃ g c4, s4 = ⟨some ⟨g, 0, none⟩, s.n, c4⟩ ∧ w.heap.size + 2 ≤ g := by
     obtain ⟨A4, n4, c4⟩ := s4
     dsimp only at h4l
     rcases (HS4t.out.own _ rfl).2 with ⟨_, h2⟩ | ⟨g, cap, cur, h1, h2, _⟩
     · dsimp only at h2
       have := HN0.out
       have := HSQ.out
       omega
     · unfold Sl.v at h1
       injection h1 with h1 _ h3
       subst h1
       exact ⟨g, c4, by rw [h4l, HSQ.out], h2⟩
    subst h4v
    clear h4l
    have HR0 : Hid (RSt w (w.heap.size + 2) g c4 s.n Q Q 0 wn) := ⟨HS4t.out.own _ rfl, rfl, rfl, h4b, fun z _ hz => absurd hz (by omega), fun _ _ => rfl, fun r hr => (HQ.out r hr).len⟩
    have HG := Hi h4b
    have hbn : s.n ≤ 4611686018427387904 := HS4t.out.bd (by decide)
    clear h4b HKs HLs HS1s HS2s HS3s HKr HLr HS1r HS2r HS3r HS4 HS4t q18
    dsimp only at *
    go_loopw [38] (fun v38 wr => ∃ (j : Nat) (R : List (OpC × List Value)), j ≤ s.n ∧ v38 = .int .i64 j ∧ Hid (KSt w f s1 s2 [m0, m1, m2, m3, m4] s3 ⟨some ⟨g, 0, none⟩, s.n, c4⟩ wr) ∧ Hid (KLs w f [k0, k1, k2, k3, k4] [m0, m1, m2, m3, m4] 5 wr) ∧ Hid (SlAt wr (some (w.heap.size + 2)) 5 1 1 s1 f.l.length (bcells f.l)) ∧ Hid (SlAt wr (some (w.heap.size + 2)) 74 3 40 s2 f.L.length (aclCells f.L)) ∧ Hid (SlAt wr (some (w.heap.size + 2)) 72 2 32 s3 f.I.length (idCells f.I)) ∧ Hid (RSt w (w.heap.size + 2) g c4 s.n Q R j wr)) (fun v38 _ => s.n - (intOf v38).toNat)
    case atStart => exact ⟨0, Q, by omega, rfl, HKt.out, HLt.out, HS1t.out, HS2t.out, HS3t.out, HR0.out⟩
    case round =>
     clear HKt HLt HS1t HS2t HS3t HR0
     obtain ⟨j, R, hj, rfl, HKr, HLr, HS1r, HS2r, HS3r, HRr⟩ := hrel
     have q18 := HKr.out.c18
     dsimp only at q18
     by_cases hlt : j < s.n
     · have hjR : j < R.length := by rw [HRr.out.len, HSQ.out]; exact hlt
       have hjQ : j < Q.length := by rw [HSQ.out]; exact hlt
       have hxq : R[j]? = Q[j]? := HRr.out.rest j zR
       have hxq' : R[j] = Q[j] := by rw [List.getElem?_eq_getElem hjR, List.getElem?_eq_getElem hjQ] at hxq; injection hxq
       have hrow := HRr.out.row hjR (by rw [HRr.out.len, HSQ.out]) 
       have hih := HIH.out _ (List.getElem_mem hjQ)
       have hat := HQ.out _ (List.getElem_mem hjQ)
       rw [hxq'] at hrow
       have HXE : Hid ((Q[j]).1 = (R[j]).1) := by unfold Hid; rw [hxq']
       obtain ⟨⟨x, xc⟩, hx⟩ : ∃ q, q = Q[j] := ⟨_, rfl⟩
       rw [← hx] at hrow hih hat HXE
       dsimp only at hrow hih hat HXE
       have HROW := Hi hrow
       have HIX := Hi hih
       have HJR := Hi hjR
       have ZX : Hid ((Tryd.prog.info? 29).map (·.size) = some xc.length) := by unfold Hid; rw [hat.len]; exact isz_29
       have ZA : Hid ((Tryd.prog.info? 29).map (·.size) = some xc.toArray.size) := by unfold Hid; rw [zO, hat.len]; exact isz_29
       have ZZ : Hid (((Tryd.prog.info? 29).bind (·.zero)).map (·.cells.size) = some xc.toArray.size) := by unfold Hid; rw [zO, hat.len]; exact zer_op
       have ZO := Hi hat.one
       obtain ⟨w2, hw2⟩ := xa wr (xc.toArray) 29
       have HN2 := Hi (zW hw2)
       have hb2 := zV hw2
       have HK2 := Hi (HKr.out.later hb2)
       have HL2 := Hi (HLr.out.later hb2)
       have HS12 := Hi (HS1r.out.later hb2)
       have HS22 := Hi (HS2r.out.later hb2)
       have HS32 := Hi (HS3r.out.later hb2)
       have HR2 := Hi (HRr.out.later hb2)
       clear hx hxq hxq' hrow hih hat hjQ
       go_wp2_with (first
        | (refine wpList_load_at (by rfl) 29 (.tmp 41) rfl ⟨g, j * 19, none⟩ rfl xc _ HROW.out zU29 rfl ZX.out ?_)
        | (refine wpList_newrow1 rfl rfl rfl 29 rfl 6 rfl (.tmp 40) rfl 5 rfl (by decide) (.tmp 42) rfl rfl (.int .i64 (j : Int)) (fun _ => rfl) xc.toArray (fun _ => rfl) (show 6 < 51 by decide) ZZ.out ZA.out ZO.out ?_
           rw [hw2]))
       have CS : Hid (∀ {W}, Below w2.heap.size w2 W → W.cell? ⟨w.heap.size, 18, none⟩ = some (.slice (some ⟨g, 0, none⟩) s.n c4)) := fun {W} hW => (HK2.out.later hW).c18
       have CR : Hid (∀ {W}, Below w2.heap.size w2 W → ∀ k v, xc[k]? = some v → W.cell? ((⟨wr.heap.size, 0, none⟩ : Addr).add k) = some v) := fun {W} hW k v hk => by
        rw [zN, Nat.zero_add, (HN2.out.below hW HN2.out.lt).cell k]
        simpa using hk
       have CJ : Hid (∀ W, Below w2.heap.size w2 W → Calls Tryd.prog 19 #[.agg xc.toArray] W fun e w' => ∃ v, e = .returned v ∧ (∃ xc' : List Value, v = .agg xc'.toArray ∧ At w' (some w2.heap.size) x xc') ∧ Below W.heap.size W w') := fun W hW => (HIX.out W (HK2.out.below.trans (hW.mono HK2.out.below.size))).mono fun e w' ⟨xc', h1, h2, h3⟩ => ⟨_, h1, ⟨xc', rfl, h2.lo rfl hW.size⟩, h3⟩
       clear q18 hw2 hb2 HKr HLr HS1r HS2r HS3r HRr
       obtain ⟨x43, H43⟩ := xv (.pointer (some ⟨w.heap.size, 18, none⟩))
       obtain ⟨x44, H44⟩ := xv (.slice (some ⟨g, 0, none⟩) s.n c4)
       obtain ⟨x45, H45⟩ := xv (.int .i64 (j : Int))
       obtain ⟨x46, H46⟩ := xv (.agg xc.toArray)
       refine wp_region_tail (w0 := w2) 6 rfl (.inl x43 ::
        .inl x44 ::
        .inl x45 ::
        .inl x46 ::
        .inr (fun v W => ∃ xc' : List Value, v = .agg xc'.toArray ∧ At W (some w2.heap.size) x xc') ::
        .inl (.pointer (some ⟨g, j * 19, none⟩)) :: []) rfl (by kernel_rfl) (by kernel_rfl) (by kernel_rfl) (by kernel_rfl) (by kernel_rfl) (by
        intro p hp
        simp only [zH, reduceCtorEq, Sum.inr.injEq, zI, or_false, false_or] at hp
        subst hp
        rintro v W W' ⟨xc', h1, h2⟩ hb
        exact ⟨xc', h1, h2.later hb⟩) ⟨fun ac W hb o q K hK => op_u (u := .pointer (some ⟨w.heap.size, 18, none⟩)) rfl (r_field 29 _ 14 rfl (yA (hO o 1)) zU29 rfl (n := 0) isz_27 rfl) (kH hK H43),
        fun ac W hb o q K hK => op_u (u := .slice (some ⟨g, 0, none⟩) s.n c4) rfl (r_load 27 _ rfl (yA (dE q 0 43 H43)) (CS.out hb) zU27 rfl) (kH hK H44),
        fun ac W hb o q K hK => op_u (u := .int .i64 (j : Int)) rfl (r_move _ rfl (yA (hO o 5))) (kH hK H45),
        fun ac W hb o q K hK => op_u (u := .agg xc.toArray) rfl (r_load_row 29 _ rfl (yA (hO o 6)) xc (CR.out hb) zU29 rfl ZX.out) (kH hK H46),
        fun ac W hb o q K hK => op_callR rfl 19 _ _ rfl (#[.agg xc.toArray]) (by simp [(yA (dE q 3 46 H46))]) Tryd.func19 (by kernel_rfl) (by kernel_rfl) (CJ.out W hb) (fun v w' hv hbl => hK _ _ hv hbl),
        fun ac W hb o q K hK => op_u (u := .pointer (some ⟨g, j * 19, none⟩)) rfl (r_index 27 _ _ rfl (yA (dE q 1 44 H44)) (yA (dE q 2 45 H45)) hlt zU27 isz_29 (by rw [zN, Nat.zero_add])) (kR hK), trivial⟩ ?_
       intro w3 hb3
       simp only [Fin, List.take_succ_cons, List.take_zero, Act.put, zD, zA, zB]
       rintro v47 ⟨xc', rfl, hx'⟩
       clear H43 H44 H45 H46
       have HK3 := Hi (HK2.out.later hb3)
       have HL3 := Hi (HL2.out.later hb3)
       have HS13 := Hi (HS12.out.later hb3)
       have HS23 := Hi (HS22.out.later hb3)
       have HS33 := Hi (HS32.out.later hb3)
       have HR3 := Hi (HR2.out.later hb3)
       have hgw : g < w2.heap.size := by
        obtain ⟨cur, h1, _⟩ := HR2.out.blk (by rw [HR2.out.len, HSQ.out])
        exact h1.lt
       have hx2 : At w3 (some (g + 1)) x xc' := hx'.lo rfl hgw
       obtain ⟨cur, hcur, hcn, _⟩ := HR3.out.blk (by rw [HR3.out.len, HSQ.out])
       have hx19 := hx2.len
       have hxone : ∀ v ∈ xc', v.oneCell' = true := fun v hv => by
        have := hx2.one
        rw [zQ] at this
        exact this v (by simpa using hv)
       refine stepL_store_mid rfl 29 (.tmp 48) (.tmp 47) rfl g (j * 19) (.agg xc'.toArray) rfl rfl hcur (news := xc') rfl (by rw [hx19]; exact isz_29) (by rw [hx19]; omega) hxone ?_
       intro w4 cn hBn hxn hgn hzn
       have hgk : w.heap.size ≤ g := by have := HG.out; omega
       have HR4 : Hid (RSt w (w.heap.size + 2) g c4 s.n Q (R.set j (x, xc')) (j + 1) w4) := HR3.out.set (by rw [HR3.out.len, HSQ.out]) HJR.out hx2 HXE.out hcur hBn hxn hgn
       have HK4 := Hi (HK3.out.far hgn HG.out)
       have HL4 := Hi (HL3.out.other hgn hcur (by decide))
       have HS14 := Hi (HS13.out.other hgn hcur (by decide))
       have HS24 := Hi (HS23.out.other hgn hcur (by decide))
       have HS34 := Hi (HS33.out.other hgn hcur (by decide))
       clear hx' hx2 hcur hcn hx19 hxone hBn hxn hgn hzn hgk hgw hb3
       go_wp2
       go_roundw
       case rel => exact ⟨j + 1, R.set j (x, xc'), by omega, by go_num, HK4.out, HL4.out, HS14.out, HS24.out, HS34.out, HR4.out⟩
       case measure => simp [intOf]; omega
     · obtain rfl : j = s.n := by omega
       have HAT : Hid (At wr (some (w.heap.size + 2)) (.mk f (Q.map Prod.fst)) (f.rowL s1 s2 [m0, m1, m2, m3, m4] s3 ⟨some ⟨g, 0, none⟩, s.n, c4⟩)) := by
        unfold Hid
        refine clone_end HOK.out HLr.out HS1r.out HS2r.out HS3r.out ?_ ?_ HRr.out.fst
        · have := SlAt.of_own (bytes := 296) HRr.out.own HREA.out
          rw [HRr.out.len, HSQ.out]
          exact this
        · intro r hr
          obtain ⟨z, hz, rfl⟩ := List.mem_iff_getElem.1 hr
          exact (HRr.out.done z hz (by rw [← HSQ.out, ← HRr.out.len]; exact hz)).lo rfl (by have := HG.out; omega)
       clear q18 hlt hj

       obtain ⟨zr, hz1', hz2'⟩ := HKr.out.res
       have HZR := Hi hz1'
       have hzs : zr.size = 19 := hz2'
       have HINF : Hid ((Tryd.prog.info? 29).map (·.size) = some (f.rowL s1 s2 [m0, m1, m2, m3, m4] s3 ⟨some ⟨g, 0, none⟩, s.n, c4⟩).toArray.size) := by unfold Hid; rw [HKr.out.asize]; exact isz_29
       have HZS : Hid (zr.size = (f.rowL s1 s2 [m0, m1, m2, m3, m4] s3 ⟨some ⟨g, 0, none⟩, s.n, c4⟩).toArray.size) := by unfold Hid; rw [HKr.out.asize]; exact hzs
       clear hz1' hz2' hzs
       go_wp2_with (first
        | (refine wpList_load_row rfl 29 (.tmp 1) rfl w.heap.size rfl 29 _ _ _ HKr.out.blk zU29 rfl HINF.out ?_)
        | (refine wpList_store_row rfl 29 (.tmp 2) (.tmp 50) rfl (w.heap.size + 1) _ rfl rfl 29 _ HZR.out HINF.out HZS.out (rowL_one rfl) ?_
           generalize hww : World.setRow _ _ _ = wz
           have HGZ : Hid (wr.grownBy wz (some (w.heap.size + 1))) := by unfold Hid; rw [← hww]; exact only_setRow' _ _ _
           have HBZ : Hid (Blk wz (w.heap.size + 1) 29 (f.rowL s1 s2 [m0, m1, m2, m3, m4] s3 ⟨some ⟨g, 0, none⟩, s.n, c4⟩).toArray) := by unfold Hid; rw [← hww]; exact cells_setRow HZR.out
           clear hww))
       refine bodyPost_ret (results_cell_row rfl _ _ (w.heap.size + 1) 29 _ _ _ rfl HBZ.out zU29 rfl HINF.out) rfl ?_
       exact ⟨_, rfl, (HAT.out.grown rfl HGZ.out (by omega)).lo rfl (by omega), HKr.out.below.grown HGZ.out (by have := HKr.out.size; omega) (fun k hk => by injection hk with hk; omega)⟩
theorem opClone_any {w : World} {lo : Option Nat} {x : OpC} {cs : List Value} (h : At w lo x cs) : ∀ W, Below w.heap.size w W → Calls Tryd.prog 19 #[.agg cs.toArray] W (Cloned W x) := by
 induction h with
 | mk f d a k0 k1 k2 k3 k4 i s Q ok hd ha hk0 hk1 hk2 hk3 hk4 hi hs hQ ih =>
   intro W hW
   exact clone_walk f d a k0 k1 k2 k3 k4 i s Q W ok ⟨hd.later hW, ha.later hW, hk0.later hW, hk1.later hW, hk2.later hW, hk3.later hW, hk4.later hW, hi.later hW⟩ (hs.later hW) (fun q hq => (hQ q hq).later hW) (fun q hq W' hW' => ih q hq W' (hW.trans (hW'.mono hW.size))) _ rfl

mutual
def OpC.flat : OpC → List OpC
 | .mk f S => if f.t = 14 then flatL S else [.mk f S]
def flatL : List OpC → List OpC
 | [] => []
 | x :: r => x.flat ++ flatL r
end
mutual
theorem OpC.flat_len : ∀ x : OpC, x.flat.length = x.parts
 | .mk f S => by
   rw [OpC.flat, OpC.parts]
   split
   · exact flatL_len S
   · rfl
theorem flatL_len : ∀ S : List OpC, (flatL S).length = partsL S
 | [] => by rw [flatL, partsL]; rfl
 | x :: r => by rw [flatL, partsL, zG, OpC.flat_len x, flatL_len r]
end
theorem SlAt.window {w W : World} {b : Nat} {e : TypeId} {size bytes len : Nat} {s : Sl} {xs : List Value} (h : SlAt w (some b) e size bytes s len xs) (hk : ∀ k, b ≤ k → k < w.heap.size → W.heap[k]? = w.heap[k]?) : SlAt W (some b) e size bytes s len xs := by
 have ho : W.ownsRow b e size s.v s.n xs := by
  obtain ⟨h1, h2⟩ := h.own b rfl
  refine ⟨h1, ?_⟩
  rcases h2 with h2 | ⟨g, cap, cur, e1, e2, e3, e4⟩
  · exact .inl h2
  · refine .inr ⟨g, cap, cur, e1, e2, ?_, e4⟩
    have hlt : g < w.heap.size := by
     rcases Nat.lt_or_ge g w.heap.size with hlt | hge
     · exact hlt
     · rw [Array.getElem?_eq_none hge] at e3; cases e3
    exact (hk g e2 hlt).trans e3
 exact ⟨h.nil, h.le, h.cap, h.reach, h.len, Reads.of_own ho, fun c hc => by injection hc with hc; subst hc; exact ho⟩
theorem At.window {w W : World} {x : OpC} {cs : List Value} {lo : Option Nat} (h : At w lo x cs) : ∀ {b : Nat}, lo = some b → (∀ k, b ≤ k → k < w.heap.size → W.heap[k]? = w.heap[k]?) → At W (some b) x cs := by
 induction h with
 | mk f d a k0 k1 k2 k3 k4 i s Q ok hd ha hk0 hk1 hk2 hk3 hk4 hi hs _ ih =>
   intro b hlo hk
   subst hlo
   exact .mk f d a k0 k1 k2 k3 k4 i s Q ok (hd.window hk) (ha.window hk) (hk0.window hk) (hk1.window hk) (hk2.window hk) (hk3.window hk) (hk4.window hk) (hi.window hk) (hs.window hk) fun q hq => ih q hq rfl hk
def Win (W : World) (b e : Nat) (x : OpC) (cs : List Value) : Prop := ∃ w : World, At w (some b) x cs ∧ w.heap.size = e ∧ e ≤ W.heap.size ∧ ∀ k, b ≤ k → k < e → W.heap[k]? = w.heap[k]?
theorem Win.at_ {W : World} {b e : Nat} {x : OpC} {cs : List Value} (h : Win W b e x cs) : At W (some b) x cs := by
 obtain ⟨w, h1, h2, _, h4⟩ := h
 exact h1.window rfl fun k hk hl => h4 k hk (by omega)
theorem Win.new {W : World} {b : Nat} {x : OpC} {cs : List Value} (h : At W (some b) x cs) : Win W b W.heap.size x cs := ⟨W, h, rfl, Nat.le_refl _, fun _ _ _ => rfl⟩
theorem Win.later {W W' : World} {b e : Nat} {x : OpC} {cs : List Value} (h : Win W b e x cs) (hb : Below W.heap.size W W') : Win W' b e x cs := by
 obtain ⟨w, h1, h2, h3, h4⟩ := h
 exact ⟨w, h1, h2, Nat.le_trans h3 hb.size, fun k hk hl => (hb.block k (by omega)).trans (h4 k hk hl)⟩
theorem Win.grown {W W' : World} {b e : Nat} {row : Option Nat} {x : OpC} {cs : List Value} (h : Win W b e x cs) (hg : W.grownBy W' row) (hne : ∀ g, row = some g → g < b ∨ e ≤ g) : Win W' b e x cs := by
 obtain ⟨w, h1, h2, h3, h4⟩ := h
 refine ⟨w, h1, h2, Nat.le_trans h3 hg.size, fun k hk hl => (hg.block k (by omega) (fun e' => ?_)).trans (h4 k hk hl)⟩
 rcases hne k e'.symm with h | h <;> omega
structure FlatSt (base : Nat) (v : Value) (R : List (OpC × List Value)) (W : World) : Prop where
 own : W.ownsRow base 29 19 v R.length (R.flatMap Prod.snd)
 bs : base ≤ W.heap.size
 win : ∀ r ∈ R, ∃ b e, base ≤ b ∧ Win W b e r.1 r.2 ∧ ∀ g, v.ownBlock = some g → g < b ∨ e ≤ g
theorem FlatSt.later {base : Nat} {v : Value} {R : List (OpC × List Value)} {W W' : World} (h : FlatSt base v R W) (hb : Below W.heap.size W W') : FlatSt base v R W' :=
 ⟨own_below h.own hb, Nat.le_trans h.bs hb.size, fun r hr => by
   obtain ⟨b, e, h1, h2, h3⟩ := h.win r hr
   exact ⟨b, e, h1, h2.later hb, h3⟩⟩
theorem FlatSt.nil (W : World) : FlatSt W.heap.size (.slice none 0 0) [] W := ⟨World.ownsRow_nil _ _ _ _, Nat.le_refl _, fun _ hr => by cases hr⟩
theorem FlatSt.snoc {base b : Nat} {v v' : Value} {R : List (OpC × List Value)} {r : OpC × List Value} {W W' : World} (h : FlatSt base v R W) (hr : Win W b W.heap.size r.1 r.2) (hb : base ≤ b) (hv : ∀ g, v.ownBlock = some g → g < b)
 (hown : W'.ownsRow base 29 19 v' (R.length + 1) (R.flatMap Prod.snd ++ r.2)) (hg : W.grownBy W' v.ownBlock) (hat : v'.ownBlock = v.ownBlock ∨ v'.ownBlock = some W.heap.size) : FlatSt base v' (R ++ [r]) W' := by
 refine ⟨by simpa using hown, Nat.le_trans h.bs hg.size, fun q hq => ?_⟩
 rcases List.mem_append.1 hq with hq | hq
 · obtain ⟨b', e', h1, h2, h3⟩ := h.win q hq
   refine ⟨b', e', h1, h2.grown hg h3, fun g hgv => ?_⟩
   rcases hat with hat | hat
   · exact h3 g (by rw [← hat]; exact hgv)
   · rw [hat] at hgv
     injection hgv with hgv
     obtain ⟨_, _, _, h5, _⟩ := h2
     right
     omega
 · rw [List.mem_singleton] at hq
   subst hq
   refine ⟨b, W.heap.size, hb, hr.grown hg (fun g hgv => .inl (hv g hgv)), fun g hgv => ?_⟩
   rcases hat with hat | hat
   · exact .inl (hv g (by rw [← hat]; exact hgv))
   · rw [hat] at hgv
     injection hgv with hgv
     right
     omega
def Flatted (base : Nat) (W : World) (R : List (OpC × List Value)) (xs : List OpC) (e : Ending) (w' : World) : Prop :=
 ∃ A' c' R', e = .returned (.slice A' (R ++ R').length c') ∧ R'.map Prod.fst = xs ∧ FlatSt base (.slice A' (R ++ R').length c') (R ++ R') w' ∧ Below base W w'
theorem FlatSt.lt {base : Nat} {v : Value} {R : List (OpC × List Value)} {W : World} (h : FlatSt base v R W) {g : Nat} (hg : v.ownBlock = some g) : g < W.heap.size := (h.own.lt g hg).2

theorem flat_any {w0 : World} {lo : Option Nat} {x : OpC} {xs : List Value} (h : At w0 lo x xs) : ∀ (base : Nat) (W : World) (A : Option Addr) (n c : Nat) (R : List (OpC × List Value)), w0.heap.size ≤ base → Below base w0 W → FlatSt base (.slice A n c) R W → n = R.length → n + x.nodes ≤ 1000000 →
 Calls Tryd.prog 34 #[.slice A n c, .agg xs.toArray] W (Flatted base W R x.flat) := by
 induction h with
 | mk f d a k0 k1 k2 k3 k4 i s Q ok hd ha hk0 hk1 hk2 hk3 hk4 hi hs hQ ih =>
   intro base W A n c R hbase hW hF hn hb
   have hat : At w0 lo (.mk f (Q.map Prod.fst)) (f.row d a k0 k1 k2 k3 k4 i s) := .mk f d a k0 k1 k2 k3 k4 i s Q ok hd ha hk0 hk1 hk2 hk3 hk4 hi hs hQ
   obtain ⟨cs, hcs⟩ : ∃ cs : Array Value, cs = (f.row d a k0 k1 k2 k3 k4 i s).toArray := ⟨_, rfl⟩
   rw [← hcs]
   obtain ⟨w1, hw1⟩ := xa W cs 29
   have hz1 : w1.heap.size = W.heap.size + 1 := by rw [← hw1]; simp
   have hb1 := zV hw1
   have HN1 := Hi (zW hw1)
   have HC0 : Hid (cs[0]? = some (.int .i32 f.t)) := by unfold Hid; rw [hcs]; rfl
   have HC18 : Hid (cs[18]? = some (.slice s.A s.n s.c)) := by unfold Hid; rw [hcs]; rfl
   have HZ : Hid ((Tryd.prog.info? 29).map (·.size) = some cs.size) := by unfold Hid; rw [hcs, zO, OpF.row_len]; exact isz_29
   have c0 := yC HN1.out 0 HC0.out
   have c18 := yC HN1.out 18 HC18.out
   have HF1 := Hi (hF.later hb1)
   have HBW : Hid (Below base W w1) := hb1.mono hF.bs
   have HB0 := Hi (hW.trans HBW.out)
   have HF := Hi hF
   have HN := Hi hn
   have HNO : Hid (n + (nodesL (Q.map Prod.fst) + 1) ≤ 1000000) := by rw [OpC.nodes] at hb; exact hb
   have hW0 : Below w0.heap.size w0 w1 := HB0.out.mono hbase
   have HCL : Hid (∀ W', Below w1.heap.size w1 W' → Calls Tryd.prog 19 #[.agg cs] W' (Cloned W' (.mk f (Q.map Prod.fst)))) := fun W' hW' => by rw [hcs]; exact opClone_any hat W' (hW0.trans (hW'.mono hW0.size))
   have hs1 := hs.later hW0
   have HRD : Hid (Reads w1 w0.heap.size 19 s.A s.n (Q.flatMap Prod.snd)) := hs.reads.below hW0
   have HQ := Hi hQ
   have HSQ : Hid (Q.length = s.n) := hs.len
   have HIH := Hi ih
   have HBASE := Hi hbase
   have hsb : s.n ≤ 4611686018427387904 := hs.bd (by decide)
   have hnb : n ≤ 1000000 := by omega
   clear hat hcs hb1 hF hn hb hW hd ha hk0 hk1 hk2 hk3 hk4 hi hs hQ ih hW0 hs1 hbase ok
   rw [OpC.flat]
   by_cases ht : f.t = 14
   rotate_left
   · rw [if_neg ht]
     have hF1 := HF1.out
     go_enter Tryd.func34, Tryd.ntmps34
     obtain ⟨i0, hi0, hz0, hzi1, hzi2⟩ := info_parts op_info
     go_wp2_with (first
      | (refine wpList_load_row rfl 29 (.tmp 3) rfl W.heap.size rfl 29 _ _ _ HN1.out zU29 rfl HZ.out ?_)
      | (go_at_call 19
         refine (HCL.out _ zT).mono ?_
         rintro e w2 ⟨rc, rfl, hrc, hb2⟩
         have HRC := Hi hrc
         have HF2 := Hi (HF1.out.later hb2)
         have HB2 := Hi (HBW.out.trans (hb2.mono HF1.out.bs))
         have HL2 : Hid (∀ g, (Value.slice A n c).ownBlock = some g → g < w1.heap.size) := fun g hg => HF1.out.lt hg
         have HRS : Hid ((Value.agg rc.toArray).cells.size = 19) := by unfold Hid; show rc.toArray.size = 19; rw [zO, hrc.len]
         clear hb2 hrc)
      | (refine wpList_build1 rfl 27 29 (.tmp 12) rfl (.agg rc.toArray) rfl 19 zU27 isz_29 zer_op (by decide) HRS.out ?_
         obtain ⟨w3, hw3⟩ := xa w2 (rc.toArray) 29
         have hc3 : (Value.agg rc.toArray).cells = rc.toArray := rfl
         rw [hc3, hw3]
         have hb3 := zV hw3
         have hn3 := zW hw3
         have hz3 : w3.heap.size = w2.heap.size + 1 := (by rw [← hw3]; simp)
         have HF3 := Hi (HF2.out.later hb3)
         have HB3 := Hi (HB2.out.trans (hb3.mono HF2.out.bs))
         have HW3 : Hid (Win w3 w1.heap.size w3.heap.size (.mk f (Q.map Prod.fst)) rc) := Win.new (HRC.out.later hb3)
         have HR3 : Hid (Reads w3 w3.heap.size 19 (some ⟨w2.heap.size, 0, none⟩) 1 rc) := ⟨(by rw [HRC.out.len]), fun _ => ⟨⟨w2.heap.size, 0, none⟩, rfl, hn3.lt, fun j u hj => (by rw [zN, Nat.zero_add, hn3.cell]; simpa using hj)⟩⟩
         have HO3 : Hid (∀ u ∈ rc, u.oneCell' = true) := fun v hv => (by
          have := HRC.out.one
          rw [zQ] at this
          exact this v (by simpa using hv))
         have HOW : Hid (w3.ownsRow base 29 19 (.slice A n c) n (R.flatMap Prod.snd)) := (by unfold Hid; have := HF3.out.own; rwa [← HN.out] at this)
         clear hw3 hc3 hb3 hn3)
      | (at_builtin
         refine wpList_append_any _ rfl (.tmp 10) (.tmp 13) _ rfl base 29 i0 _ 19 296 zU27 hi0 hz0 hzi1 hzi2 rfl (by decide) (.slice A n c) n (R.flatMap Prod.snd) rfl HOW.out w3.heap.size (some ⟨w2.heap.size, 0, none⟩) 1 1 rc rfl HR3.out HO3.out (by unfold maxLen; omega) (by omega) HF3.out.bs ?_
         intro v4 w4 hown4 hg4 hat4
         obtain ⟨A4, c4, rfl⟩ := slice_form hown4
         have HOW4 := Hi hown4
         have HG4 := Hi hg4
         have HA4 := Hi hat4
         clear hown4 hg4 hat4))
     go_ret
     refine ⟨A4, c4, [(.mk f (Q.map Prod.fst), rc)], by rw [zG, HN.out]; rfl, rfl, ?_, ?_⟩
     · have h4 : w4.ownsRow base 29 19 (.slice A4 (n + 1) c4) (R.length + 1) (R.flatMap Prod.snd ++ rc) := by have := HOW4.out; rwa [HN.out] at this ⊢
       have := HF3.out.snoc (b := w1.heap.size) (r := (.mk f (Q.map Prod.fst), rc)) HW3.out HF1.out.bs HL2.out h4 HG4.out HA4.out
       rw [zG, ← HN.out]
       exact this
     · exact HB3.out.grown HG4.out HF3.out.bs (fun k hk => (HOW.out.lt k hk).1)
   · rw [if_pos ht]
     obtain ⟨S, hS⟩ : ∃ S, S = Q.map Prod.fst := ⟨_, rfl⟩
     have HSM := Hi hS
     rw [← hS] at HNO ⊢
     clear hS HCL
     obtain ⟨sA, N, sc⟩ := s
     dsimp only at HC18 c18 HRD HSQ hsb
     go_enter Tryd.func34, Tryd.ntmps34
     go_wp2
     clear c0 c18
     go_loopw [0, 18] (fun v0 vi wr => ∃ (k n' : Nat) (A' : Option Addr) (c' : Nat) (R' : List (OpC × List Value)), k ≤ N ∧ n' ≤ 1000000 ∧ v0 = .slice A' n' c' ∧ vi = .int .i64 (k : Int) ∧ Hid (n' = (R ++ R').length) ∧ Hid (FlatSt base (.slice A' n' c') (R ++ R') wr) ∧ Hid (R'.map Prod.fst ++ flatL (S.drop k) = flatL S) ∧ Hid (R'.length + nodesL (S.drop k) ≤ nodesL S) ∧ Hid (Below base w1 wr)) (fun _ vi _ => N - (intOf vi).toNat)
     case atStart => exact ⟨0, n, A, c, [], by omega, by omega, rfl, rfl, (by unfold Hid; rw [List.append_nil]; exact HN.out), (by unfold Hid; rw [List.append_nil]; exact HF1.out), (by unfold Hid; simp), (by unfold Hid; simp), Below.refl _ _⟩
     case round =>
      clear HF1 HF
      obtain ⟨k, n', A', c', R', hk, hn', rfl, rfl, HN', HFr, HM, HNB, HW⟩ := hrel
      by_cases hkn : k < N
      · have hkQ : k < Q.length := by rw [HSQ.out]; exact hkn
        have hb0 : Below w0.heap.size w0 w1 := HB0.out.mono HBASE.out
        have hbw : Below base w0 wr := HB0.out.trans HW.out
        have hb1 : Below w0.heap.size w0 wr := hbw.mono HBASE.out
        have hrd : Reads wr w0.heap.size 19 sA N (Q.flatMap Prod.snd) := HRD.out.keep fun p hp => HW.out.cell (Nat.lt_of_lt_of_le hp HBASE.out)
        obtain ⟨ad, hA, hrow⟩ := rowAt hrd HQ.out hkQ HSQ.out
        subst hA
        have hdrop : S.drop k = (Q[k]).1 :: S.drop (k + 1) := by
         rw [HSM.out, List.drop_eq_getElem_cons (by simpa using hkQ)]
         simp
        have hih := HIH.out (Q[k]) (List.getElem_mem _)
        obtain ⟨⟨x, xc⟩, hx⟩ : ∃ x, x = Q[k] := ⟨_, rfl⟩
        rw [← hx] at hrow hdrop hih
        dsimp only at hrow hdrop hih
        have hnb := HNB.out
        have hno := HNO.out
        have hnl := HN'.out
        have hnn := HN.out
        rw [zG] at hnl
        rw [hdrop, nodesL] at hnb
        have HNX : Hid (n' + x.nodes ≤ 1000000) := by unfold Hid; omega
        have HROW := Hi hrow
        have HDR := Hi hdrop
        have HIK := Hi hih
        have HBR := Hi hbw
        have HXN : Hid (R'.length + (x.nodes + nodesL (S.drop (k + 1))) ≤ nodesL S) := hnb
        have HXL := Hi (OpC.flat_len x)
        have HXC := Hi (OpC.counts_le x).1
        obtain ⟨w2, hw2⟩ := xa wr (xc.toArray) 29
        have HN2 := Hi (zW hw2)
        have hb2 := zV hw2
        have HF2 := Hi (HFr.out.later hb2)
        have HW2 : Hid (Below base w1 w2) := HW.out.trans (hb2.mono HFr.out.bs)
        clear hx hrow hdrop hih hbw hkQ hb0 hb1 hrd hnb hno hnl hnn hb2
        go_wp2_with (first
         | (refine wpList_load_at (by rfl) 29 (.tmp 20) rfl (ad.add (k * 19)) rfl xc _ HROW.out.cells zU29 rfl HROW.out.info ?_)
         | (refine wpList_newrow rfl rfl 29 rfl 6 rfl (.tmp 21) rfl rfl xc.toArray (fun _ => rfl) (show 6 < 27 by decide) HROW.out.zero HROW.out.infoA HROW.out.one ?_
            rw [hw2])
         | (refine wpList_load_row rfl 29 (.tmp 6) rfl wr.heap.size rfl 29 _ _ _ HN2.out zU29 rfl HROW.out.infoA ?_)
         | (go_at_call 34
            refine (HIK.out base _ A' n' c' (R ++ R') HBASE.out (HB0.out.trans HW2.out) HF2.out HN'.out HNX.out).mono ?_
            rintro e w3 ⟨A3, c3, R3, rfl, hm3, hF3, hb3⟩
            rw [zL] at hF3
            have HF3 := Hi hF3
            have HM3 : Hid ((R' ++ R3).map Prod.fst ++ flatL (S.drop (k + 1)) = flatL S) := (by unfold Hid; rw [← HM.out, HDR.out, flatL, List.map_append, hm3, zL])
            have HL3 : Hid (R3.length ≤ x.nodes) := (by unfold Hid; have h1 := congrArg List.length hm3; rw [List.length_map] at h1; have h2 := HXL.out; have h3 := HXC.out; omega)
            have HW3 : Hid (Below base w1 w3) := HW2.out.trans hb3
            clear hb3 hF3 hm3))
        have hbnd : (R ++ R' ++ R3).length ≤ 1000000 := by
         have h1 := HL3.out
         have h2 := HXN.out
         have h3 := HNO.out
         have h4 := HN.out
         simp only [zG]
         omega
        have HNN : Hid ((R ++ R' ++ R3).length = (R ++ (R' ++ R3)).length) := by unfold Hid; rw [zL]
        have HXN2 : Hid ((R' ++ R3).length + nodesL (S.drop (k + 1)) ≤ nodesL S) := by
         have h1 := HL3.out
         have h2 := HXN.out
         unfold Hid
         rw [zG]
         omega
        rw [HNN.out] at hbnd
        go_roundw
        case rel => exact ⟨k + 1, (R ++ (R' ++ R3)).length, A3, c3, R' ++ R3, by omega, hbnd, by simp [zG], by go_num, rfl, HF3.out, HM3.out, HXN2.out, HW3.out⟩
        case measure => simp [intOf]; omega
      · obtain rfl : k = N := by omega
        have HM2 : Hid (R'.map Prod.fst = flatL S) := by
         have h := HM.out
         rw [List.drop_eq_nil_of_le (by rw [HSM.out, List.length_map, HSQ.out]; exact Nat.le_refl _), flatL, List.append_nil] at h
         exact h
        clear HM HNB
        go_wp2
        go_ret
        exact ⟨A', c', R', by rw [← HN'.out]; rfl, HM2.out, by rw [← HN'.out]; exact HFr.out, HBW.out.trans HW.out⟩
end Go.Proofs.YtpjjnmdfgcfnmaaDoor
