/- ReplyNames: a code's name: the walks. (printed by gen_n1r.py) -/
import Derived.Test.YtnbaajplelchjaaGreatDoorRn0
import Derived.Test.YtnbaajplelchjaaGreatDoorJenv
import Derived.Test.YtnbaajplelchjaaGreatDoorShelf
set_option linter.unusedVariables false
set_option linter.unusedSimpArgs false
namespace Go.Proofs.YtnbaajplelchjaaGreatDoor
open Go.RowKit

/-- the library's table of powers, and what its errors' variables hold -/
structure EnvR (W : World) : Prop where
  u8 : Env W
  tab : Lib.TabIs Tryz.prog W "internal/strconv.uint64pow10" .u64 Lib.pow10Tab
  es : ∃ ev, W.cell? ⟨2, 0, none⟩ = some ev ∧ (ev = .nilIface ∨ ∃ te pe, ev = .iface te pe)
  er : ∃ ev, W.cell? ⟨3, 0, none⟩ = some ev ∧ (ev = .nilIface ∨ ∃ te pe, ev = .iface te pe)
  g1 : 4 < W.heap.size
  g2 : 2 < W.heap.size
  g3 : 3 < W.heap.size
theorem EnvR.below {W W' : World} (h : EnvR W) (hb : Below W.heap.size W W') : EnvR W' := by
  refine ⟨h.u8.below hb, ?_, ?_, ?_, Nat.lt_of_lt_of_le h.g1 hb.size, Nat.lt_of_lt_of_le h.g2 hb.size, Nat.lt_of_lt_of_le h.g3 hb.size⟩
  · have ht := h.tab
    have hg : Tryz.prog.globalNamed "internal/strconv.uint64pow10" = some 4 := by kernel_rfl
    unfold Lib.TabIs World.var? at *
    simp only [hg, Option.bind_some] at ht ⊢
    rw [hb.block _ h.g1]
    exact ht
  · obtain ⟨ev, e, h2⟩ := h.es
    exact ⟨ev, (hb.cell (p := ⟨2, 0, none⟩) h.g2).trans e, h2⟩
  · obtain ⟨ev, e, h2⟩ := h.er
    exact ⟨ev, (hb.cell (p := ⟨3, 0, none⟩) h.g3).trans e, h2⟩
theorem below_growR {w w' : World} {k : Nat} {os : Array Obj} (h : w' = Sort.grow (w.drewN k) os) : Below w.heap.size w w' := by
  subst h
  exact ⟨rfl, rfl, rfl, by show w.heap.size ≤ (w.heap ++ os).size; rw [Array.size_append]; omega, fun j hj => Sort.heap_grow_old w os (k := j) hj⟩
theorem itoa_anyR (z : Int) (h0 : -2147483648 ≤ z) (h1 : z ≤ 2147483647) (w : World) (hE : EnvR w) :
    Calls Tryz.prog 73 #[.int .i64 z] w fun e w' => e = .returned (.string ⟨(Lib.itoa z).toArray⟩) ∧ Below w.heap.size w w' :=
  (Tryz.strconv_Itoa z (by omega) (by omega) w hE.tab).mono (fun e w' h => ⟨h.1, by obtain ⟨_, k, os, e⟩ := h; exact below_growR e⟩)
theorem fmt_anyR (z : Int) (h0 : -2147483648 ≤ z) (h1 : z ≤ 2147483647) (w : World) (hE : EnvR w) :
    Calls Tryz.prog 135 #[.int .i64 z, .int .i64 10] w fun e w' => e = .returned (.string ⟨(Lib.itoa z).toArray⟩) ∧ Below w.heap.size w w' :=
  (Tryz.strconv_FormatInt_10 z (by omega) (by omega) w hE.tab).mono (fun e w' h => ⟨h.1, by obtain ⟨_, k, os, e⟩ := h; exact below_growR e⟩)
theorem dec_anyR (z : Int) (h0 : -2147483648 ≤ z) (h1 : z ≤ 2147483647) (w : World) (hE : EnvR w) :
    Calls Tryz.prog 74 #[.int .i64 z] w fun e w' => e = .returned (.string ⟨(Lib.itoa z).toArray⟩) ∧ Below w.heap.size w w' := by
  have HR := Lib.hid (fmt_anyR z h0 h1 w hE)
  go_enter Tryz.func74, Tryz.ntmps74
  go_wp2_with (go_at_call 135; refine HR.out.mono ?_; rintro e w2 ⟨rfl, hb⟩; have HB := Lib.hid hb; clear hb)
  go_ret
  exact ⟨rfl, HB.out⟩
theorem cat_code (l : List UInt8) : (⟨#[67, 79, 68, 69]⟩ : ByteArray) ++ ⟨l.toArray⟩ = ⟨(codeText ++ l).toArray⟩ := by
  have : ∀ x y : ByteArray, x.data = y.data → x = y := fun x y h => by cases x; cases y; simpa using h
  apply this
  rw [ByteArray.data_append]
  apply Array.ext'
  simp [codeText]

set_option maxRecDepth 100000 in
set_option maxHeartbeats 8000000 in
theorem name_any (c : Int) (h0 : -2147483648 ≤ c) (h1 : c ≤ 2147483647) (w : World) (hE : EnvR w) :
    Calls Tryz.prog 29 #[.int .i32 c] w fun e w' => e = .returned (.string ⟨(codeName c).toArray⟩) ∧ Below w.heap.size w w' := by
  have HI := Lib.hid (itoa_anyR c h0 h1 w hE)
  clear hE
  by_cases e0 : c = 0
  · subst e0
    have hc : codeName (0) = [79, 75] := by kernel_rfl
    rw [hc]
    clear HI hc
    go_enter Tryz.func29, Tryz.ntmps29
    go_wp2
    go_ret
    exact ⟨rfl, Below.refl _ _⟩
  have b0 : (c == 0) = false := by simp [e0]
  by_cases e1 : c = -1
  · subst e1
    have hc : codeName (-1) = [83, 89, 83, 84, 69, 77, 69, 82, 82, 79, 82] := by kernel_rfl
    rw [hc]
    clear HI hc e0 b0
    go_enter Tryz.func29, Tryz.ntmps29
    go_wp2
    go_ret
    exact ⟨rfl, Below.refl _ _⟩
  have b1 : (c == -1) = false := by simp [e1]
  by_cases e2 : c = -2
  · subst e2
    have hc : codeName (-2) = [73, 78, 67, 79, 78, 83, 73, 83, 84, 69, 78, 67, 89] := by kernel_rfl
    rw [hc]
    clear HI hc e0 b0 e1 b1
    go_enter Tryz.func29, Tryz.ntmps29
    go_wp2
    go_ret
    exact ⟨rfl, Below.refl _ _⟩
  have b2 : (c == -2) = false := by simp [e2]
  by_cases e3 : c = -4
  · subst e3
    have hc : codeName (-4) = [67, 79, 78, 78, 69, 67, 84, 73, 79, 78, 76, 79, 83, 83] := by kernel_rfl
    rw [hc]
    clear HI hc e0 b0 e1 b1 e2 b2
    go_enter Tryz.func29, Tryz.ntmps29
    go_wp2
    go_ret
    exact ⟨rfl, Below.refl _ _⟩
  have b3 : (c == -4) = false := by simp [e3]
  by_cases e4 : c = -5
  · subst e4
    have hc : codeName (-5) = [77, 65, 82, 83, 72, 65, 76, 76, 73, 78, 71] := by kernel_rfl
    rw [hc]
    clear HI hc e0 b0 e1 b1 e2 b2 e3 b3
    go_enter Tryz.func29, Tryz.ntmps29
    go_wp2
    go_ret
    exact ⟨rfl, Below.refl _ _⟩
  have b4 : (c == -5) = false := by simp [e4]
  by_cases e5 : c = -6
  · subst e5
    have hc : codeName (-6) = [85, 78, 73, 77, 80, 76, 69, 77, 69, 78, 84, 69, 68] := by kernel_rfl
    rw [hc]
    clear HI hc e0 b0 e1 b1 e2 b2 e3 b3 e4 b4
    go_enter Tryz.func29, Tryz.ntmps29
    go_wp2
    go_ret
    exact ⟨rfl, Below.refl _ _⟩
  have b5 : (c == -6) = false := by simp [e5]
  by_cases e6 : c = -8
  · subst e6
    have hc : codeName (-8) = [66, 65, 68, 65, 82, 71, 85, 77, 69, 78, 84, 83] := by kernel_rfl
    rw [hc]
    clear HI hc e0 b0 e1 b1 e2 b2 e3 b3 e4 b4 e5 b5
    go_enter Tryz.func29, Tryz.ntmps29
    go_wp2
    go_ret
    exact ⟨rfl, Below.refl _ _⟩
  have b6 : (c == -8) = false := by simp [e6]
  by_cases e7 : c = -101
  · subst e7
    have hc : codeName (-101) = [78, 79, 78, 79, 68, 69] := by kernel_rfl
    rw [hc]
    clear HI hc e0 b0 e1 b1 e2 b2 e3 b3 e4 b4 e5 b5 e6 b6
    go_enter Tryz.func29, Tryz.ntmps29
    go_wp2
    go_ret
    exact ⟨rfl, Below.refl _ _⟩
  have b7 : (c == -101) = false := by simp [e7]
  by_cases e8 : c = -102
  · subst e8
    have hc : codeName (-102) = [78, 79, 65, 85, 84, 72] := by kernel_rfl
    rw [hc]
    clear HI hc e0 b0 e1 b1 e2 b2 e3 b3 e4 b4 e5 b5 e6 b6 e7 b7
    go_enter Tryz.func29, Tryz.ntmps29
    go_wp2
    go_ret
    exact ⟨rfl, Below.refl _ _⟩
  have b8 : (c == -102) = false := by simp [e8]
  by_cases e9 : c = -103
  · subst e9
    have hc : codeName (-103) = [66, 65, 68, 86, 69, 82, 83, 73, 79, 78] := by kernel_rfl
    rw [hc]
    clear HI hc e0 b0 e1 b1 e2 b2 e3 b3 e4 b4 e5 b5 e6 b6 e7 b7 e8 b8
    go_enter Tryz.func29, Tryz.ntmps29
    go_wp2
    go_ret
    exact ⟨rfl, Below.refl _ _⟩
  have b9 : (c == -103) = false := by simp [e9]
  by_cases e10 : c = -108
  · subst e10
    have hc : codeName (-108) = [78, 79, 67, 72, 73, 76, 68, 82, 69, 78, 70, 79, 82, 69, 80, 72, 69, 77, 69, 82, 65, 76, 83] := by kernel_rfl
    rw [hc]
    clear HI hc e0 b0 e1 b1 e2 b2 e3 b3 e4 b4 e5 b5 e6 b6 e7 b7 e8 b8 e9 b9
    go_enter Tryz.func29, Tryz.ntmps29
    go_wp2
    go_ret
    exact ⟨rfl, Below.refl _ _⟩
  have b10 : (c == -108) = false := by simp [e10]
  by_cases e11 : c = -110
  · subst e11
    have hc : codeName (-110) = [78, 79, 68, 69, 69, 88, 73, 83, 84, 83] := by kernel_rfl
    rw [hc]
    clear HI hc e0 b0 e1 b1 e2 b2 e3 b3 e4 b4 e5 b5 e6 b6 e7 b7 e8 b8 e9 b9 e10 b10
    go_enter Tryz.func29, Tryz.ntmps29
    go_wp2
    go_ret
    exact ⟨rfl, Below.refl _ _⟩
  have b11 : (c == -110) = false := by simp [e11]
  by_cases e12 : c = -111
  · subst e12
    have hc : codeName (-111) = [78, 79, 84, 69, 77, 80, 84, 89] := by kernel_rfl
    rw [hc]
    clear HI hc e0 b0 e1 b1 e2 b2 e3 b3 e4 b4 e5 b5 e6 b6 e7 b7 e8 b8 e9 b9 e10 b10 e11 b11
    go_enter Tryz.func29, Tryz.ntmps29
    go_wp2
    go_ret
    exact ⟨rfl, Below.refl _ _⟩
  have b12 : (c == -111) = false := by simp [e12]
  by_cases e13 : c = -112
  · subst e13
    have hc : codeName (-112) = [83, 69, 83, 83, 73, 79, 78, 69, 88, 80, 73, 82, 69, 68] := by kernel_rfl
    rw [hc]
    clear HI hc e0 b0 e1 b1 e2 b2 e3 b3 e4 b4 e5 b5 e6 b6 e7 b7 e8 b8 e9 b9 e10 b10 e11 b11 e12 b12
    go_enter Tryz.func29, Tryz.ntmps29
    go_wp2
    go_ret
    exact ⟨rfl, Below.refl _ _⟩
  have b13 : (c == -112) = false := by simp [e13]
  by_cases e14 : c = -114
  · subst e14
    have hc : codeName (-114) = [73, 78, 86, 65, 76, 73, 68, 65, 67, 76] := by kernel_rfl
    rw [hc]
    clear HI hc e0 b0 e1 b1 e2 b2 e3 b3 e4 b4 e5 b5 e6 b6 e7 b7 e8 b8 e9 b9 e10 b10 e11 b11 e12 b12 e13 b13
    go_enter Tryz.func29, Tryz.ntmps29
    go_wp2
    go_ret
    exact ⟨rfl, Below.refl _ _⟩
  have b14 : (c == -114) = false := by simp [e14]
  by_cases e15 : c = -121
  · subst e15
    have hc : codeName (-121) = [78, 79, 87, 65, 84, 67, 72, 69, 82] := by kernel_rfl
    rw [hc]
    clear HI hc e0 b0 e1 b1 e2 b2 e3 b3 e4 b4 e5 b5 e6 b6 e7 b7 e8 b8 e9 b9 e10 b10 e11 b11 e12 b12 e13 b13 e14 b14
    go_enter Tryz.func29, Tryz.ntmps29
    go_wp2
    go_ret
    exact ⟨rfl, Below.refl _ _⟩
  have b15 : (c == -121) = false := by simp [e15]
  by_cases e16 : c = -125
  · subst e16
    have hc : codeName (-125) = [81, 85, 79, 84, 65, 69, 88, 67, 69, 69, 68, 69, 68] := by kernel_rfl
    rw [hc]
    clear HI hc e0 b0 e1 b1 e2 b2 e3 b3 e4 b4 e5 b5 e6 b6 e7 b7 e8 b8 e9 b9 e10 b10 e11 b11 e12 b12 e13 b13 e14 b14 e15 b15
    go_enter Tryz.func29, Tryz.ntmps29
    go_wp2
    go_ret
    exact ⟨rfl, Below.refl _ _⟩
  have b16 : (c == -125) = false := by simp [e16]
  by_cases e17 : c = -127
  · subst e17
    have hc : codeName (-127) = [66, 85, 83, 89] := by kernel_rfl
    rw [hc]
    clear HI hc e0 b0 e1 b1 e2 b2 e3 b3 e4 b4 e5 b5 e6 b6 e7 b7 e8 b8 e9 b9 e10 b10 e11 b11 e12 b12 e13 b13 e14 b14 e15 b15 e16 b16
    go_enter Tryz.func29, Tryz.ntmps29
    go_wp2
    go_ret
    exact ⟨rfl, Below.refl _ _⟩
  have b17 : (c == -127) = false := by simp [e17]
  by_cases e18 : c = -128
  · subst e18
    have hc : codeName (-128) = [84, 79, 79, 77, 65, 78, 89, 69, 80, 72, 69, 77, 69, 82, 65, 76, 83] := by kernel_rfl
    rw [hc]
    clear HI hc e0 b0 e1 b1 e2 b2 e3 b3 e4 b4 e5 b5 e6 b6 e7 b7 e8 b8 e9 b9 e10 b10 e11 b11 e12 b12 e13 b13 e14 b14 e15 b15 e16 b16 e17 b17
    go_enter Tryz.func29, Tryz.ntmps29
    go_wp2
    go_ret
    exact ⟨rfl, Below.refl _ _⟩
  have b18 : (c == -128) = false := by simp [e18]
  have hc : codeName c = codeText ++ Lib.itoa c := by
    rcases codeName_or c with ⟨x, hx, rfl, _⟩ | ⟨_, h⟩
    · exfalso
      simp only [known, List.mem_cons, List.not_mem_nil, or_false] at hx
      rcases hx with rfl | rfl | rfl | rfl | rfl | rfl | rfl | rfl | rfl | rfl | rfl | rfl | rfl | rfl | rfl | rfl | rfl | rfl | rfl <;> simp at *
    · exact h
  rw [hc, ← cat_code]
  have hw : wrap64 c = c := by unfold wrap64; omega
  have hil := (itoa_len c h0 h1).2
  clear hc e0 e1 e2 e3 e4 e5 e6 e7 e8 e9 e10 e11 e12 e13 e14 e15 e16 e17 e18
  go_enter Tryz.func29, Tryz.ntmps29
  go_wp2_with (go_at_call 73; refine HI.out.mono ?_; rintro e w2 ⟨rfl, hb⟩; have HB := Lib.hid hb; clear hb)
  go_ret
  exact ⟨rfl, HB.out⟩

set_option maxRecDepth 100000 in
set_option maxHeartbeats 8000000 in
theorem refName_any (c : Int) (h0 : -2147483648 ≤ c) (h1 : c ≤ 2147483647) (w : World) (hE : EnvR w) :
    Calls Tryz.prog 30 #[.int .i32 c] w fun e w' => e = .returned (.string ⟨(codeName c).toArray⟩) ∧ Below w.heap.size w w' := by
  have HI := Lib.hid (dec_anyR c h0 h1 w hE)
  clear hE
  by_cases e0 : c = 0
  · subst e0
    have hc : codeName (0) = [79, 75] := by kernel_rfl
    rw [hc]
    clear HI hc
    go_enter Tryz.func30, Tryz.ntmps30
    go_wp2
    go_ret
    exact ⟨rfl, Below.refl _ _⟩
  have b0 : (c == 0) = false := by simp [e0]
  by_cases e1 : c = -1
  · subst e1
    have hc : codeName (-1) = [83, 89, 83, 84, 69, 77, 69, 82, 82, 79, 82] := by kernel_rfl
    rw [hc]
    clear HI hc e0 b0
    go_enter Tryz.func30, Tryz.ntmps30
    go_wp2
    go_ret
    exact ⟨rfl, Below.refl _ _⟩
  have b1 : (c == -1) = false := by simp [e1]
  by_cases e2 : c = -2
  · subst e2
    have hc : codeName (-2) = [73, 78, 67, 79, 78, 83, 73, 83, 84, 69, 78, 67, 89] := by kernel_rfl
    rw [hc]
    clear HI hc e0 b0 e1 b1
    go_enter Tryz.func30, Tryz.ntmps30
    go_wp2
    go_ret
    exact ⟨rfl, Below.refl _ _⟩
  have b2 : (c == -2) = false := by simp [e2]
  by_cases e3 : c = -4
  · subst e3
    have hc : codeName (-4) = [67, 79, 78, 78, 69, 67, 84, 73, 79, 78, 76, 79, 83, 83] := by kernel_rfl
    rw [hc]
    clear HI hc e0 b0 e1 b1 e2 b2
    go_enter Tryz.func30, Tryz.ntmps30
    go_wp2
    go_ret
    exact ⟨rfl, Below.refl _ _⟩
  have b3 : (c == -4) = false := by simp [e3]
  by_cases e4 : c = -5
  · subst e4
    have hc : codeName (-5) = [77, 65, 82, 83, 72, 65, 76, 76, 73, 78, 71] := by kernel_rfl
    rw [hc]
    clear HI hc e0 b0 e1 b1 e2 b2 e3 b3
    go_enter Tryz.func30, Tryz.ntmps30
    go_wp2
    go_ret
    exact ⟨rfl, Below.refl _ _⟩
  have b4 : (c == -5) = false := by simp [e4]
  by_cases e5 : c = -6
  · subst e5
    have hc : codeName (-6) = [85, 78, 73, 77, 80, 76, 69, 77, 69, 78, 84, 69, 68] := by kernel_rfl
    rw [hc]
    clear HI hc e0 b0 e1 b1 e2 b2 e3 b3 e4 b4
    go_enter Tryz.func30, Tryz.ntmps30
    go_wp2
    go_ret
    exact ⟨rfl, Below.refl _ _⟩
  have b5 : (c == -6) = false := by simp [e5]
  by_cases e6 : c = -8
  · subst e6
    have hc : codeName (-8) = [66, 65, 68, 65, 82, 71, 85, 77, 69, 78, 84, 83] := by kernel_rfl
    rw [hc]
    clear HI hc e0 b0 e1 b1 e2 b2 e3 b3 e4 b4 e5 b5
    go_enter Tryz.func30, Tryz.ntmps30
    go_wp2
    go_ret
    exact ⟨rfl, Below.refl _ _⟩
  have b6 : (c == -8) = false := by simp [e6]
  by_cases e7 : c = -101
  · subst e7
    have hc : codeName (-101) = [78, 79, 78, 79, 68, 69] := by kernel_rfl
    rw [hc]
    clear HI hc e0 b0 e1 b1 e2 b2 e3 b3 e4 b4 e5 b5 e6 b6
    go_enter Tryz.func30, Tryz.ntmps30
    go_wp2
    go_ret
    exact ⟨rfl, Below.refl _ _⟩
  have b7 : (c == -101) = false := by simp [e7]
  by_cases e8 : c = -102
  · subst e8
    have hc : codeName (-102) = [78, 79, 65, 85, 84, 72] := by kernel_rfl
    rw [hc]
    clear HI hc e0 b0 e1 b1 e2 b2 e3 b3 e4 b4 e5 b5 e6 b6 e7 b7
    go_enter Tryz.func30, Tryz.ntmps30
    go_wp2
    go_ret
    exact ⟨rfl, Below.refl _ _⟩
  have b8 : (c == -102) = false := by simp [e8]
  by_cases e9 : c = -103
  · subst e9
    have hc : codeName (-103) = [66, 65, 68, 86, 69, 82, 83, 73, 79, 78] := by kernel_rfl
    rw [hc]
    clear HI hc e0 b0 e1 b1 e2 b2 e3 b3 e4 b4 e5 b5 e6 b6 e7 b7 e8 b8
    go_enter Tryz.func30, Tryz.ntmps30
    go_wp2
    go_ret
    exact ⟨rfl, Below.refl _ _⟩
  have b9 : (c == -103) = false := by simp [e9]
  by_cases e10 : c = -108
  · subst e10
    have hc : codeName (-108) = [78, 79, 67, 72, 73, 76, 68, 82, 69, 78, 70, 79, 82, 69, 80, 72, 69, 77, 69, 82, 65, 76, 83] := by kernel_rfl
    rw [hc]
    clear HI hc e0 b0 e1 b1 e2 b2 e3 b3 e4 b4 e5 b5 e6 b6 e7 b7 e8 b8 e9 b9
    go_enter Tryz.func30, Tryz.ntmps30
    go_wp2
    go_ret
    exact ⟨rfl, Below.refl _ _⟩
  have b10 : (c == -108) = false := by simp [e10]
  by_cases e11 : c = -110
  · subst e11
    have hc : codeName (-110) = [78, 79, 68, 69, 69, 88, 73, 83, 84, 83] := by kernel_rfl
    rw [hc]
    clear HI hc e0 b0 e1 b1 e2 b2 e3 b3 e4 b4 e5 b5 e6 b6 e7 b7 e8 b8 e9 b9 e10 b10
    go_enter Tryz.func30, Tryz.ntmps30
    go_wp2
    go_ret
    exact ⟨rfl, Below.refl _ _⟩
  have b11 : (c == -110) = false := by simp [e11]
  by_cases e12 : c = -111
  · subst e12
    have hc : codeName (-111) = [78, 79, 84, 69, 77, 80, 84, 89] := by kernel_rfl
    rw [hc]
    clear HI hc e0 b0 e1 b1 e2 b2 e3 b3 e4 b4 e5 b5 e6 b6 e7 b7 e8 b8 e9 b9 e10 b10 e11 b11
    go_enter Tryz.func30, Tryz.ntmps30
    go_wp2
    go_ret
    exact ⟨rfl, Below.refl _ _⟩
  have b12 : (c == -111) = false := by simp [e12]
  by_cases e13 : c = -112
  · subst e13
    have hc : codeName (-112) = [83, 69, 83, 83, 73, 79, 78, 69, 88, 80, 73, 82, 69, 68] := by kernel_rfl
    rw [hc]
    clear HI hc e0 b0 e1 b1 e2 b2 e3 b3 e4 b4 e5 b5 e6 b6 e7 b7 e8 b8 e9 b9 e10 b10 e11 b11 e12 b12
    go_enter Tryz.func30, Tryz.ntmps30
    go_wp2
    go_ret
    exact ⟨rfl, Below.refl _ _⟩
  have b13 : (c == -112) = false := by simp [e13]
  by_cases e14 : c = -114
  · subst e14
    have hc : codeName (-114) = [73, 78, 86, 65, 76, 73, 68, 65, 67, 76] := by kernel_rfl
    rw [hc]
    clear HI hc e0 b0 e1 b1 e2 b2 e3 b3 e4 b4 e5 b5 e6 b6 e7 b7 e8 b8 e9 b9 e10 b10 e11 b11 e12 b12 e13 b13
    go_enter Tryz.func30, Tryz.ntmps30
    go_wp2
    go_ret
    exact ⟨rfl, Below.refl _ _⟩
  have b14 : (c == -114) = false := by simp [e14]
  by_cases e15 : c = -121
  · subst e15
    have hc : codeName (-121) = [78, 79, 87, 65, 84, 67, 72, 69, 82] := by kernel_rfl
    rw [hc]
    clear HI hc e0 b0 e1 b1 e2 b2 e3 b3 e4 b4 e5 b5 e6 b6 e7 b7 e8 b8 e9 b9 e10 b10 e11 b11 e12 b12 e13 b13 e14 b14
    go_enter Tryz.func30, Tryz.ntmps30
    go_wp2
    go_ret
    exact ⟨rfl, Below.refl _ _⟩
  have b15 : (c == -121) = false := by simp [e15]
  by_cases e16 : c = -125
  · subst e16
    have hc : codeName (-125) = [81, 85, 79, 84, 65, 69, 88, 67, 69, 69, 68, 69, 68] := by kernel_rfl
    rw [hc]
    clear HI hc e0 b0 e1 b1 e2 b2 e3 b3 e4 b4 e5 b5 e6 b6 e7 b7 e8 b8 e9 b9 e10 b10 e11 b11 e12 b12 e13 b13 e14 b14 e15 b15
    go_enter Tryz.func30, Tryz.ntmps30
    go_wp2
    go_ret
    exact ⟨rfl, Below.refl _ _⟩
  have b16 : (c == -125) = false := by simp [e16]
  by_cases e17 : c = -127
  · subst e17
    have hc : codeName (-127) = [66, 85, 83, 89] := by kernel_rfl
    rw [hc]
    clear HI hc e0 b0 e1 b1 e2 b2 e3 b3 e4 b4 e5 b5 e6 b6 e7 b7 e8 b8 e9 b9 e10 b10 e11 b11 e12 b12 e13 b13 e14 b14 e15 b15 e16 b16
    go_enter Tryz.func30, Tryz.ntmps30
    go_wp2
    go_ret
    exact ⟨rfl, Below.refl _ _⟩
  have b17 : (c == -127) = false := by simp [e17]
  by_cases e18 : c = -128
  · subst e18
    have hc : codeName (-128) = [84, 79, 79, 77, 65, 78, 89, 69, 80, 72, 69, 77, 69, 82, 65, 76, 83] := by kernel_rfl
    rw [hc]
    clear HI hc e0 b0 e1 b1 e2 b2 e3 b3 e4 b4 e5 b5 e6 b6 e7 b7 e8 b8 e9 b9 e10 b10 e11 b11 e12 b12 e13 b13 e14 b14 e15 b15 e16 b16 e17 b17
    go_enter Tryz.func30, Tryz.ntmps30
    go_wp2
    go_ret
    exact ⟨rfl, Below.refl _ _⟩
  have b18 : (c == -128) = false := by simp [e18]
  have hc : codeName c = codeText ++ Lib.itoa c := by
    rcases codeName_or c with ⟨x, hx, rfl, _⟩ | ⟨_, h⟩
    · exfalso
      simp only [known, List.mem_cons, List.not_mem_nil, or_false] at hx
      rcases hx with rfl | rfl | rfl | rfl | rfl | rfl | rfl | rfl | rfl | rfl | rfl | rfl | rfl | rfl | rfl | rfl | rfl | rfl | rfl <;> simp at *
    · exact h
  rw [hc, ← cat_code]
  have hw : wrap64 c = c := by unfold wrap64; omega
  have hil := (itoa_len c h0 h1).2
  clear hc e0 e1 e2 e3 e4 e5 e6 e7 e8 e9 e10 e11 e12 e13 e14 e15 e16 e17 e18
  go_enter Tryz.func30, Tryz.ntmps30
  go_wp2_with (go_at_call 74; refine HI.out.mono ?_; rintro e w2 ⟨rfl, hb⟩; have HB := Lib.hid hb; clear hb)
  go_ret
  exact ⟨rfl, HB.out⟩

end Go.Proofs.YtnbaajplelchjaaGreatDoor
