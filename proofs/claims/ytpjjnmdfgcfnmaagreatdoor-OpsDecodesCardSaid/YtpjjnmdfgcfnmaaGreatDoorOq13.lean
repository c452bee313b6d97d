/- Is there one of them? slices.IndexFunc, ContainsFunc; lists put together: slices.Grow, Concat. (printed by gen_p13.py) -/
import Derived.Test.YtpjjnmdfgcfnmaaGreatDoorOq11
import Derived.Lib.AppendZerosOnto
import Derived.WalkLawsBesides
set_option linter.unusedVariables false
set_option linter.unusedSimpArgs false
namespace Go.Proofs.YtpjjnmdfgcfnmaaGreatDoor
open Go.RowKit

/-- the first place of one, or -1 -/
def idxP {α : Type} (p : α → Bool) (L : List α) : Int := match L.findIdx? p with
  | some i => (i : Int)
  | none => -1
theorem idxP_any {α : Type} (p : α → Bool) (L : List α) : decide (idxP p L ≥ 0) = L.any p := by
  unfold idxP
  cases h : L.findIdx? p with
  | none =>
    rw [List.findIdx?_eq_none_iff] at h
    have : L.any p = false := by
      rw [List.any_eq_false]
      intro x hx
      simpa using h x hx
    rw [this]
    rfl
  | some i =>
    have h1 := List.findIdx?_eq_some_iff_getElem.1 h
    obtain ⟨hi, hp, _⟩ := h1
    have : L.any p = true := List.any_eq_true.2 ⟨_, List.getElem_mem hi, hp⟩
    rw [this]
    simp
theorem idxP_at {α : Type} {p : α → Bool} {L : List α} {k : Nat} (hk : k < L.length) (h : ∀ z (hz : z < L.length), z < k → p L[z] = false) (hp : p L[k] = true) : idxP p L = (k : Int) := by
  have : L.findIdx? p = some k := List.findIdx?_eq_some_iff_getElem.2 ⟨hk, hp, fun j hj => by simp [h j (by omega) hj]⟩
  unfold idxP
  rw [this]
theorem idxP_no {α : Type} {p : α → Bool} {L : List α} (h : ∀ z (hz : z < L.length), p L[z] = false) : idxP p L = -1 := by
  have : L.findIdx? p = none := by
    rw [List.findIdx?_eq_none_iff]
    intro x hx
    obtain ⟨z, hz, rfl⟩ := List.getElem_of_mem hx
    exact h z hz
  unfold idxP
  rw [this]

set_option maxRecDepth 100000 in
set_option maxHeartbeats 2000000 in
theorem idx_str (A : Option Addr) (n c B : Nat) (L : List ByteArray) (p : ByteArray → Bool) (F : FuncId) (w : World) (hn : n ≤ 4611686018427387904) (hB : B ≤ w.heap.size) (hr : Reads w B 1 A n (strCells L)) (hent : ∀ (args : Array Value) (W : World), (callFunc F args).run Tryz.prog W = .ok (.enter F args) W)
    (HF : ∀ x ∈ L, ∀ W, Below w.heap.size w W → Calls Tryz.prog F #[.string x] W fun e w' => e = .returned (.bool (p x)) ∧ Below W.heap.size W w') :
    Calls Tryz.prog 132 #[.slice A n c, .func (.func F) #[] #[]] w fun e w' => e = .returned (.int .i64 (idxP p L)) ∧ Below w.heap.size w w' := by
  have hl : L.length = n := by have := hr.1; rw [strCells_length] at this; omega
  have HL := Lib.hid hl
  have HR := Lib.hid hr
  have HFF := Lib.hid HF
  have HENT := Lib.hid hent
  clear hl hr HF hent
  go_enter Tryz.func132, Tryz.ntmps132
  go_wp2
  go_loopw [8] (fun k' wr => ∃ k : Nat, k ≤ n ∧ k' = .int .i64 k ∧ Hid (∀ z (h : z < L.length), z < k → p L[z] = false) ∧ Hid (Below w.heap.size w wr)) (fun k' _ => n - (intOf k').toNat)
  case atStart => exact ⟨0, Nat.zero_le _, rfl, (by intro z _ hz; omega), Below.refl _ _⟩
  case round =>
    obtain ⟨k, hk, rfl, HP, HB0⟩ := hrel
    by_cases hlt : k < n
    · have hkl : k < L.length := by rw [HL.out]; exact hlt
      obtain ⟨b, off, rfl, _, hx⟩ := (HR.out.below (HB0.out.mono hB)).plain (by omega) (by omega)
      have x0 := hx _ _ (strCells_get L k hkl)
      simp only [Nat.mul_one] at x0
      have hf := HFF.out L[k] (List.getElem_mem hkl) wr HB0.out
      have hat := fun h => idxP_at (p := p) (L := L) hkl HP.out h
      have hno : p L[k] = false → ∀ z (h : z < L.length), z < k + 1 → p L[z] = false := fun h z hz hzk => by
        rcases (by omega : z < k ∨ z = k) with h1 | rfl
        · exact HP.out z hz h1
        · exact h
      obtain ⟨qa, hqa⟩ : ∃ a, a = L[k] := ⟨_, rfl⟩
      rw [← hqa] at x0 hf hat hno
      obtain ⟨pb, hpb⟩ : ∃ b, b = p qa := ⟨_, rfl⟩
      rw [← hpb] at hf hat hno
      have HC := Lib.hid hf
      have hent := HENT.out
      clear hqa hpb hf hx hkl
      cases pb
      · have HNO := Lib.hid (hno rfl)
        clear hat hno HP
        go_wp2_with (first
          | (refine (HC.out).mono ?_; rintro e w2 ⟨rfl, hb⟩; have HB2 := Lib.hid (HB0.out.trans (hb.mono HB0.out.size)); clear hb))
        go_roundw
        case rel => exact ⟨k + 1, by omega, by go_num, HNO.out, HB2.out⟩
        case measure => simp [intOf]; omega
      · have HAT := Lib.hid (hat rfl)
        clear hat hno HP
        go_wp2_with (first
          | (refine (HC.out).mono ?_; rintro e w2 ⟨rfl, hb⟩; have HB2 := Lib.hid (HB0.out.trans (hb.mono HB0.out.size)); clear hb))
        go_ret
        exact ⟨by rw [HAT.out]; rfl, HB2.out⟩
    · have HNO : Hid (idxP p L = -1) := idxP_no fun z hz => HP.out z hz (by rw [HL.out] at hz; omega)
      clear HP
      go_wp2
      go_ret
      exact ⟨by rw [HNO.out]; rfl, HB0.out⟩
set_option maxRecDepth 100000 in
theorem has_str (A : Option Addr) (n c B : Nat) (L : List ByteArray) (p : ByteArray → Bool) (F : FuncId) (w : World) (hn : n ≤ 4611686018427387904) (hB : B ≤ w.heap.size) (hr : Reads w B 1 A n (strCells L)) (hent : ∀ (args : Array Value) (W : World), (callFunc F args).run Tryz.prog W = .ok (.enter F args) W)
    (HF : ∀ x ∈ L, ∀ W, Below w.heap.size w W → Calls Tryz.prog F #[.string x] W fun e w' => e = .returned (.bool (p x)) ∧ Below W.heap.size W w') :
    Calls Tryz.prog 107 #[.slice A n c, .func (.func F) #[] #[]] w fun e w' => e = .returned (.bool (L.any p)) ∧ Below w.heap.size w w' := by
  have HI := Lib.hid (idx_str A n c B L p F w hn hB hr hent HF)
  have HA := Lib.hid (idxP_any p L)
  generalize idxP p L = q at HI HA
  generalize L.any p = r at HA ⊢
  clear hr HF hent
  go_enter Tryz.func107, Tryz.ntmps107
  go_wp2_with (go_at_call 132; refine (HI.out).mono ?_; rintro e w2 ⟨rfl, hb⟩; have HB2 := Lib.hid hb; clear hb)
  go_ret
  exact ⟨by rw [← HA.out]; simp, HB2.out⟩
set_option maxRecDepth 100000 in
set_option maxHeartbeats 2000000 in
theorem idx_id (A : Option Addr) (n c B : Nat) (L : List (ByteArray × ByteArray)) (p : (ByteArray × ByteArray) → Bool) (F : FuncId) (w : World) (hn : n ≤ 4611686018427387904) (hB : B ≤ w.heap.size) (hr : Reads w B 2 A n (idCells L)) (hent : ∀ (args : Array Value) (W : World), (callFunc F args).run Tryz.prog W = .ok (.enter F args) W)
    (HF : ∀ x ∈ L, ∀ W, Below w.heap.size w W → Calls Tryz.prog F #[.agg #[.string x.1, .string x.2]] W fun e w' => e = .returned (.bool (p x)) ∧ Below W.heap.size W w') :
    Calls Tryz.prog 134 #[.slice A n c, .func (.func F) #[] #[]] w fun e w' => e = .returned (.int .i64 (idxP p L)) ∧ Below w.heap.size w w' := by
  have hl : L.length = n := by have := hr.1; rw [idCells_length] at this; omega
  have HL := Lib.hid hl
  have HR := Lib.hid hr
  have HFF := Lib.hid HF
  have HENT := Lib.hid hent
  clear hl hr HF hent
  go_enter Tryz.func134, Tryz.ntmps134
  go_wp2
  go_loopw [8] (fun k' wr => ∃ k : Nat, k ≤ n ∧ k' = .int .i64 k ∧ Hid (∀ z (h : z < L.length), z < k → p L[z] = false) ∧ Hid (Below w.heap.size w wr)) (fun k' _ => n - (intOf k').toNat)
  case atStart => exact ⟨0, Nat.zero_le _, rfl, (by intro z _ hz; omega), Below.refl _ _⟩
  case round =>
    obtain ⟨k, hk, rfl, HP, HB0⟩ := hrel
    by_cases hlt : k < n
    · have hkl : k < L.length := by rw [HL.out]; exact hlt
      obtain ⟨b, off, rfl, _, hx⟩ := (HR.out.below (HB0.out.mono hB)).plain (by omega) (by omega)
      obtain ⟨g0, g1⟩ := idCells_get L k hkl
      have x0 := hx _ _ g0
      have x1 := hx _ _ g1
      have HROW : Hid (∀ j v, ([.string L[k].1, .string L[k].2] : List Value)[j]? = some v → wr.cell? ((⟨b, off + k * 2, none⟩ : Addr).add j) = some v) := fun j v hv => by
        rw [Go.WideShapes.add_plain]
        rcases j with _ | _ | j
        · simp at hv; subst hv; simpa using x0
        · simp at hv; subst hv; simpa [Nat.add_assoc] using x1
        · simp at hv
      clear x0 x1 g0 g1
      have hf := HFF.out L[k] (List.getElem_mem hkl) wr HB0.out
      have hat := fun h => idxP_at (p := p) (L := L) hkl HP.out h
      have hno : p L[k] = false → ∀ z (h : z < L.length), z < k + 1 → p L[z] = false := fun h z hz hzk => by
        rcases (by omega : z < k ∨ z = k) with h1 | rfl
        · exact HP.out z hz h1
        · exact h
      obtain ⟨qa, hqa⟩ : ∃ a, a = L[k] := ⟨_, rfl⟩
      rw [← hqa] at HROW hf hat hno
      obtain ⟨pb, hpb⟩ : ∃ b, b = p qa := ⟨_, rfl⟩
      rw [← hpb] at hf hat hno
      have HC := Lib.hid hf
      have hent := HENT.out
      clear hqa hpb hf hx hkl
      cases pb
      · have HNO := Lib.hid (hno rfl)
        clear hat hno HP
        go_wp2_with (first
          | (refine wpList_load_at (by rfl) 102 (.tmp 14) rfl ⟨b, off + k * 2, none⟩ rfl [.string qa.1, .string qa.2] _ HROW.out Tryz.underlying102 rfl isz_102 ?_)
          | (refine (HC.out).mono ?_; rintro e w2 ⟨rfl, hb⟩; have HB2 := Lib.hid (HB0.out.trans (hb.mono HB0.out.size)); clear hb))
        go_roundw
        case rel => exact ⟨k + 1, by omega, by go_num, HNO.out, HB2.out⟩
        case measure => simp [intOf]; omega
      · have HAT := Lib.hid (hat rfl)
        clear hat hno HP
        go_wp2_with (first
          | (refine wpList_load_at (by rfl) 102 (.tmp 14) rfl ⟨b, off + k * 2, none⟩ rfl [.string qa.1, .string qa.2] _ HROW.out Tryz.underlying102 rfl isz_102 ?_)
          | (refine (HC.out).mono ?_; rintro e w2 ⟨rfl, hb⟩; have HB2 := Lib.hid (HB0.out.trans (hb.mono HB0.out.size)); clear hb))
        go_ret
        exact ⟨by rw [HAT.out]; rfl, HB2.out⟩
    · have HNO : Hid (idxP p L = -1) := idxP_no fun z hz => HP.out z hz (by rw [HL.out] at hz; omega)
      clear HP
      go_wp2
      go_ret
      exact ⟨by rw [HNO.out]; rfl, HB0.out⟩
set_option maxRecDepth 100000 in
theorem has_id (A : Option Addr) (n c B : Nat) (L : List (ByteArray × ByteArray)) (p : (ByteArray × ByteArray) → Bool) (F : FuncId) (w : World) (hn : n ≤ 4611686018427387904) (hB : B ≤ w.heap.size) (hr : Reads w B 2 A n (idCells L)) (hent : ∀ (args : Array Value) (W : World), (callFunc F args).run Tryz.prog W = .ok (.enter F args) W)
    (HF : ∀ x ∈ L, ∀ W, Below w.heap.size w W → Calls Tryz.prog F #[.agg #[.string x.1, .string x.2]] W fun e w' => e = .returned (.bool (p x)) ∧ Below W.heap.size W w') :
    Calls Tryz.prog 113 #[.slice A n c, .func (.func F) #[] #[]] w fun e w' => e = .returned (.bool (L.any p)) ∧ Below w.heap.size w w' := by
  have HI := Lib.hid (idx_id A n c B L p F w hn hB hr hent HF)
  have HA := Lib.hid (idxP_any p L)
  generalize idxP p L = q at HI HA
  generalize L.any p = r at HA ⊢
  clear hr HF hent
  go_enter Tryz.func113, Tryz.ntmps113
  go_wp2_with (go_at_call 134; refine (HI.out).mono ?_; rintro e w2 ⟨rfl, hb⟩; have HB2 := Lib.hid hb; clear hb)
  go_ret
  exact ⟨by rw [← HA.out]; simp, HB2.out⟩
set_option maxRecDepth 100000 in
set_option maxHeartbeats 2000000 in
theorem idx_lists (g off n c B : Nat) (X : List (Sl × List ByteArray)) (p : Sl × List ByteArray → Bool) (F : FuncId) (w : World) (hn : n ≤ 4611686018427387904) (hB : B ≤ w.heap.size) (hg : g < w.heap.size) (hX : ListsAt w B g off n X) (hent : ∀ (args : Array Value) (W : World), (callFunc F args).run Tryz.prog W = .ok (.enter F args) W)
    (HF : ∀ x ∈ X, ∀ W, Below w.heap.size w W → Calls Tryz.prog F #[.slice x.1.A x.1.n x.1.c] W fun e w' => e = .returned (.bool (p x)) ∧ Below W.heap.size W w') :
    Calls Tryz.prog 131 #[.slice (some ⟨g, off, none⟩) n c, .func (.func F) #[] #[]] w fun e w' => e = .returned (.int .i64 (idxP p X)) ∧ Below w.heap.size w w' := by
  have HX := Lib.hid hX
  have HFF := Lib.hid HF
  have HENT := Lib.hid hent
  clear hX HF hent
  go_enter Tryz.func131, Tryz.ntmps131
  go_wp2
  go_loopw [8] (fun k' wr => ∃ k : Nat, k ≤ n ∧ k' = .int .i64 k ∧ Hid (∀ z (h : z < X.length), z < k → p X[z] = false) ∧ Hid (Below w.heap.size w wr)) (fun k' _ => n - (intOf k').toNat)
  case atStart => exact ⟨0, Nat.zero_le _, rfl, (by intro z _ hz; omega), Below.refl _ _⟩
  case round =>
    obtain ⟨k, hk, rfl, HP, HB0⟩ := hrel
    by_cases hlt : k < n
    · have hkl : k < X.length := by rw [HX.out.len]; exact hlt
      have x1 := (HX.out.below HB0.out hB hg).cell k hkl
      have hf := HFF.out X[k] (List.getElem_mem hkl) wr HB0.out
      have hat := fun h => idxP_at (p := p) (L := X) hkl HP.out h
      have hno : p X[k] = false → ∀ z (h : z < X.length), z < k + 1 → p X[z] = false := fun h z hz hzk => by
        rcases (by omega : z < k ∨ z = k) with h1 | rfl
        · exact HP.out z hz h1
        · exact h
      obtain ⟨qa, hqa⟩ : ∃ a, a = X[k] := ⟨_, rfl⟩
      rw [← hqa] at x1 hf hat hno
      unfold Sl.v at x1
      obtain ⟨pb, hpb⟩ : ∃ b, b = p qa := ⟨_, rfl⟩
      rw [← hpb] at hf hat hno
      have HC := Lib.hid hf
      have hent := HENT.out
      clear hqa hpb hf hkl
      cases pb
      · have HNO := Lib.hid (hno rfl)
        clear hat hno HP
        go_wp2_with (refine (HC.out).mono ?_; rintro e w2 ⟨rfl, hb⟩; have HB2 := Lib.hid (HB0.out.trans (hb.mono HB0.out.size)); clear hb)
        go_roundw
        case rel => exact ⟨k + 1, by omega, by go_num, HNO.out, HB2.out⟩
        case measure => simp [intOf]; omega
      · have HAT := Lib.hid (hat rfl)
        clear hat hno HP
        go_wp2_with (refine (HC.out).mono ?_; rintro e w2 ⟨rfl, hb⟩; have HB2 := Lib.hid (HB0.out.trans (hb.mono HB0.out.size)); clear hb)
        go_ret
        exact ⟨by rw [HAT.out]; rfl, HB2.out⟩
    · have HNO : Hid (idxP p X = -1) := idxP_no fun z hz => HP.out z hz (by rw [HX.out.len] at hz; omega)
      clear HP
      go_wp2
      go_ret
      exact ⟨by rw [HNO.out]; rfl, HB0.out⟩
set_option maxRecDepth 100000 in
theorem has_lists (g off n c B : Nat) (X : List (Sl × List ByteArray)) (p : Sl × List ByteArray → Bool) (F : FuncId) (w : World) (hn : n ≤ 4611686018427387904) (hB : B ≤ w.heap.size) (hg : g < w.heap.size) (hX : ListsAt w B g off n X) (hent : ∀ (args : Array Value) (W : World), (callFunc F args).run Tryz.prog W = .ok (.enter F args) W)
    (HF : ∀ x ∈ X, ∀ W, Below w.heap.size w W → Calls Tryz.prog F #[.slice x.1.A x.1.n x.1.c] W fun e w' => e = .returned (.bool (p x)) ∧ Below W.heap.size W w') :
    Calls Tryz.prog 105 #[.slice (some ⟨g, off, none⟩) n c, .func (.func F) #[] #[]] w fun e w' => e = .returned (.bool (X.any p)) ∧ Below w.heap.size w w' := by
  have HI := Lib.hid (idx_lists g off n c B X p F w hn hB hg hX hent HF)
  have HA := Lib.hid (idxP_any p X)
  generalize idxP p X = q at HI HA
  generalize X.any p = r at HA ⊢
  clear hX HF hent
  go_enter Tryz.func105, Tryz.ntmps105
  go_wp2_with (go_at_call 131; refine (HI.out).mono ?_; rintro e w2 ⟨rfl, hb⟩; have HB2 := Lib.hid hb; clear hb)
  go_ret
  exact ⟨by rw [← HA.out]; simp, HB2.out⟩

/-- room for so many texts -/
def Grew (w : World) (e : Ending) (w' : World) : Prop := ∃ A c, e = .returned (.slice A 0 c) ∧ w'.ownsRow w.heap.size 9 1 (.slice A 0 c) 0 [] ∧ Below w.heap.size w w'
theorem zeroCells_size1 (n : Nat) : (Builtin.zeroCells (Value.string .empty).cells n).size = n := by simp [Builtin.zeroCells, Value.cells]
set_option maxRecDepth 100000 in
set_option maxHeartbeats 2000000 in
theorem growS_any (n : Nat) (hn : n * 16 ≤ 140737488355328) (w : World) : Calls Tryz.prog 130 #[.slice none 0 0, .int .i64 (n : Int)] w (Grew w) := by
  obtain ⟨i0, hi0, hz0, hz1, hz2⟩ := info_parts strO_info
  rcases Nat.eq_zero_or_pos n with h0 | h0
  · subst h0
    go_enter Tryz.func130, Tryz.ntmps130
    go_wp2
    go_ret
    exact ⟨none, 0, rfl, World.ownsRow_nil _ _ _ _, Below.refl _ _⟩
  · have hrz : ∀ ty, (Builtin.append_ #[24, 3] ty #[.slice none 0 0, .int .i64 (n : Int)]).run Tryz.prog w = .ok (.slice (some ⟨w.heap.size, 0, none⟩) n (grownCap w n 0 9)) (w.drew.alloc (.cells (([] : List Value).toArray ++ Builtin.zeroCells (Value.string .empty).cells n ++ Builtin.zeroCells (Value.string .empty).cells (grownCap w n 0 9 - n)) 9)) := fun ty => by
      have h := Lib.run_append_grow_zeros w 24 3 ty 9 i0 (.string .empty) .i64 .i64 Tryz.underlying24 Tryz.underlying3 hi0 hz0 none 0 0 [] (run_firstCells_none w.drew i0.size 0 0 0) n h0 (by omega) (by omega) (by omega) (by rw [hz2]; omega) (by rw [hz2, Nat.zero_add]; exact growslice_fits h0 hn)
      rw [Nat.zero_add] at h
      exact h
    have hGn : n ≤ grownCap w n 0 9 := grownCap_ge w _ _ _
    have hG63 := grownCap_le_maxLen w n 0 9 (by unfold maxLen; omega)
    obtain ⟨G, hG⟩ : ∃ G, G = grownCap w n 0 9 := ⟨_, rfl⟩
    rw [← hG] at hrz hGn hG63
    have HOW : Hid ((w.drew.alloc (.cells (([] : List Value).toArray ++ Builtin.zeroCells (Value.string .empty).cells n ++ Builtin.zeroCells (Value.string .empty).cells (G - n)) 9)).ownsRow w.heap.size 9 1 (.slice (some ⟨w.heap.size, 0, none⟩) 0 G) 0 []) := by
      refine World.ownsRow_made w.drew _ G (Nat.le_refl _) hG63 ?_
      rw [Array.size_append, Array.size_append, zeroCells_size1, zeroCells_size1]
      simp
      omega
    have HB : Hid (Below w.heap.size w (w.drew.alloc (.cells (([] : List Value).toArray ++ Builtin.zeroCells (Value.string .empty).cells n ++ Builtin.zeroCells (Value.string .empty).cells (G - n)) 9))) := (Below.refl _ _).drew.alloc (Nat.le_refl _) _
    unfold maxLen at hG63
    generalize hcells : (([] : List Value).toArray ++ Builtin.zeroCells (Value.string .empty).cells n ++ Builtin.zeroCells (Value.string .empty).cells (G - n)) = cells at hrz HOW HB
    clear hG hcells hi0 hz0 hz1 hz2
    go_enter Tryz.func130, Tryz.ntmps130
    go_wp2_with (at_builtin; refine Lib.wpList_append_run _ rfl _ _ _ _ rfl _ _ rfl rfl _ _ (hrz _) ?_)
    go_ret
    exact ⟨_, G, rfl, HOW.out, HB.out⟩
theorem strCells_append (a b : List ByteArray) : strCells (a ++ b) = strCells a ++ strCells b := by simp [strCells]
/-- how many texts there are in all -/
def sumLen (X : List (Sl × List ByteArray)) : Nat := (X.map fun x => x.1.n).sum
def Concated (w : World) (L : List ByteArray) (e : Ending) (w' : World) : Prop := ∃ A c, e = .returned (.slice A L.length c) ∧ w'.ownsRow w.heap.size 9 1 (.slice A L.length c) L.length (strCells L) ∧ Below w.heap.size w w'
theorem sumLen_drop {X : List (Sl × List ByteArray)} {k : Nat} (h : k < X.length) : sumLen (X.drop k) = (X[k]).1.n + sumLen (X.drop (k + 1)) := by
  rw [List.drop_eq_getElem_cons h]
  unfold sumLen
  rw [List.map_cons, List.sum_cons]
set_option maxRecDepth 100000 in
set_option maxHeartbeats 4000000 in
theorem concat_any (g off n c B : Nat) (X : List (Sl × List ByteArray)) (w : World) (hn : n ≤ 1000) (hB : B ≤ w.heap.size) (hg : g < w.heap.size) (hX : ListsAt w B g off n X) (hs : sumLen X * 16 ≤ 140737488355328) :
    Calls Tryz.prog 104 #[.slice (some ⟨g, off, none⟩) n c] w (Concated w (X.flatMap Prod.snd)) := by
  obtain ⟨i0, hi0, hz0, hzi1, hzi2⟩ := info_parts strO_info
  have HX := Lib.hid hX
  have hsb : sumLen X ≤ 8796093022208 := by omega
  have HS := Lib.hid hs
  clear hX hs
  go_enter Tryz.func104, Tryz.ntmps104
  go_wp2
  go_loop [3, 11] (fun v3 vi => ∃ (k m : Nat), k ≤ n ∧ m ≤ 8796093022208 ∧ v3 = .int .i64 (m : Int) ∧ vi = .int .i64 (k : Int) ∧ Hid (sumLen X = m + sumLen (X.drop k))) (fun _ vi => n - (intOf vi).toNat)
  case atStart => exact ⟨0, 0, by omega, by omega, by go_num, by go_num, (by unfold Hid; simp)⟩
  case round =>
    obtain ⟨k, m, hk, hm, rfl, rfl, HK⟩ := hrel
    by_cases hlt : k < n
    · have hkl : k < X.length := by rw [HX.out.len]; exact hlt
      have x1 := HX.out.cell k hkl
      have hd := sumLen_drop hkl
      obtain ⟨⟨⟨A1, n1, c1⟩, L1⟩, e1⟩ : ∃ q, q = X[k] := ⟨_, rfl⟩
      rw [← e1] at x1 hd
      unfold Sl.v at x1
      dsimp only at x1 hd
      have hk' := HK.out
      rw [hd] at hk'
      have hb1 : m + n1 ≤ 8796093022208 := by omega
      have HK2 : Hid (sumLen X = (m + n1) + sumLen (X.drop (k + 1))) := by unfold Hid; omega
      clear hkl e1 hd hk' HK
      go_wp2
      go_round
      case rel => exact ⟨k + 1, m + n1, by omega, by omega, by go_num, by go_num, HK2⟩
      case measure => simp [intOf]; omega
    · obtain rfl : k = n := by omega
      have HM : Hid (sumLen X = m) := by
        have h := HK.out
        rw [List.drop_eq_nil_of_le (by rw [HX.out.len]; exact Nat.le_refl _)] at h
        unfold Hid
        simpa [sumLen] using h
      have HGR := Lib.hid (growS_any m (by have := HM.out; have := HS.out; omega) w)
      have HGE := HGR
      clear HK hlt
      go_wp2_with (go_at_call 130
                   refine (HGR.out).mono ?_
                   rintro e w1 ⟨A0, c0, rfl, ho, hb⟩
                   have HO := Lib.hid ho
                   have HB1 := Lib.hid hb
                   clear ho hb)
      go_loopw [6, 27] (fun v6 vi wr => ∃ (j m' : Nat) (A' : Option Addr) (c' : Nat), j ≤ k ∧ m' ≤ 8796093022208 ∧ v6 = .slice A' m' c' ∧ vi = .int .i64 (j : Int) ∧ Hid (wr.ownsRow w.heap.size 9 1 (.slice A' m' c') m' (strCells ((X.take j).flatMap Prod.snd))) ∧ Hid (m' = ((X.take j).flatMap Prod.snd).length) ∧ Hid (m' + sumLen (X.drop j) = sumLen X) ∧ Hid (Below w.heap.size w wr)) (fun _ vi _ => k - (intOf vi).toNat)
      case atStart => exact ⟨0, 0, A0, c0, by omega, by omega, rfl, by go_num, (by unfold Hid; simpa [strCells] using HO.out), (by unfold Hid; simp), (by unfold Hid; simp), HB1.out⟩
      case round =>
        clear HO HB1
        obtain ⟨j, m', A', c', hj, hm', rfl, rfl, HO, HML, HSM, HB1⟩ := hrel
        by_cases hlt : j < k
        · have hkl : j < X.length := by rw [HX.out.len]; exact hlt
          have x1 := (HX.out.below HB1.out hB hg).cell j hkl
          have hrd := (HX.out.below HB1.out hB hg).reads j hkl
          have hd := sumLen_drop hkl
          have htk : X.take (j + 1) = X.take j ++ [X[j]] := List.take_succ_eq_append_getElem hkl
          obtain ⟨⟨⟨A1, n1, c1⟩, L1⟩, e1⟩ : ∃ q, q = X[j] := ⟨_, rfl⟩
          rw [← e1] at x1 hd hrd htk
          unfold Sl.v at x1
          dsimp only at x1 hd hrd
          have hl1 : L1.length = n1 := by have := hrd.1; rw [strCells_length] at this; omega
          have hk' := HSM.out
          rw [hd] at hk'
          have hb1 : m' + n1 ≤ 8796093022208 := by omega
          have hb2 : (m' + n1) * 16 ≤ 140737488355328 := by omega
          have HSM2 : Hid ((m' + n1) + sumLen (X.drop (j + 1)) = sumLen X) := by unfold Hid; omega
          have hfl : (X.take (j + 1)).flatMap Prod.snd = (X.take j).flatMap Prod.snd ++ L1 := by rw [htk]; simp
          have HFL := Lib.hid hfl
          have HRD := Lib.hid hrd
          have HL1 := Lib.hid hl1
          clear hkl e1 hd hk' hrd htk hl1 hfl HSM
          go_wp2_with (at_builtin
                       refine wpList_append_any _ rfl (.tmp 31) (.tmp 32) _ rfl w.heap.size 9 i0 _ 1 16 Tryz.underlying24 hi0 hz0 hzi1 hzi2 rfl (by decide) (.slice A' m' c') m' (strCells ((X.take j).flatMap Prod.snd)) rfl HO.out B A1 n1 c1 (strCells L1) rfl HRD.out (strCells_one _) (by unfold maxLen; omega) hb2 HB1.out.size ?_
                       intro v4 w4 hown4 hg4 hat4
                       obtain ⟨A4, c4, rfl⟩ := slice_form hown4
                       have HO4 : Hid (w4.ownsRow w.heap.size 9 1 (.slice A4 (m' + n1) c4) (m' + n1) (strCells ((X.take (j + 1)).flatMap Prod.snd))) := (by unfold Hid; rw [HFL.out, strCells_append]; exact hown4)
                       have HB4 : Hid (Below w.heap.size w w4) := HB1.out.grown hg4 HB1.out.size (fun q hq => (HO.out.lt q hq).1)
                       clear hown4 hg4 hat4)
          go_roundw
          case rel => exact ⟨j + 1, m' + n1, A4, c4, by omega, by omega, by first | rfl | go_num, by go_num, HO4.out, (by unfold Hid; rw [HFL.out, List.length_append, ← HML.out, HL1.out]), HSM2.out, HB4.out⟩
          case measure => simp [intOf]; omega
        · obtain rfl : j = k := by omega
          have HF : Hid ((X.take j).flatMap Prod.snd = X.flatMap Prod.snd) := by unfold Hid; rw [List.take_of_length_le (by rw [HX.out.len]; exact Nat.le_refl _)]
          clear hlt HSM
          go_wp2
          go_ret
          refine ⟨A', c', by rw [← HF.out, ← HML.out]; rfl, ?_, HB1.out⟩
          have := HO.out
          rw [HF.out] at this
          have h2 := HML.out
          rw [HF.out] at h2
          rw [← h2]
          exact this

end Go.Proofs.YtpjjnmdfgcfnmaaGreatDoor
