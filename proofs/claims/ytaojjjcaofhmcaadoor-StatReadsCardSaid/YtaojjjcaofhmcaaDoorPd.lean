/- Valid, Prefix: the walks. -/
import Derived.Test.YtaojjjcaofhmcaaDoorPa
import Derived.Test.YtaojjjcaofhmcaaDoorBase
set_option linter.unusedVariables false
set_option linter.unusedSimpArgs false
namespace Go.Proofs.YtaojjjcaofhmcaaDoor
open Go.RowKit

theorem size_append (a b : ByteArray) : (a ++ b).size = a.size + b.size := ByteArray.size_append

section
variable (s : ByteArray) (hs : s.size ≤ 140737488355327) (w : World) (m : Int) (hm : w.cell? ⟨5, 0, none⟩ = some (.int .i64 m)) (hG : 5 < w.heap.size)
include hs hm hG

omit hs in
theorem pvalid_any : Calls Tryd.prog 52 #[.string s] w fun e w' => e = .returned (.bool ((checkOf s).1 == 0)) ∧ Below w.heap.size w w' := by
  go_enter Tryd.func52, Tryd.ntmps52
  go_wp2_with (go_at_call 91; refine (check_any s _ m hm hG).mono ?_; rintro e w1 ⟨rfl, hb1⟩)
  go_ret
  exact ⟨rfl, hb1⟩
omit hm hG
omit hs in
theorem rvalid_any : Calls Tryd.prog 57 #[.string s] w fun e w' => e = .returned (.bool ((checkOf s).1 == 0)) ∧ ∃ n, w' = w.drewN n := by
  go_enter Tryd.func57, Tryd.ntmps57
  go_wp2_with (go_at_call 94; refine (rcheck_any s _).mono ?_; rintro e w1 ⟨rfl, n, rfl⟩)
  go_ret
  exact ⟨rfl, n, rfl⟩
end

end Go.Proofs.YtaojjjcaofhmcaaDoor
/- Plain laws: what stands ahead of a slash of a right path is a right path; who is under whom. -/
namespace Go.Proofs.YtaojjjcaofhmcaaDoor
open Go.RowKit

theorem byteAt_of_list (s : ByteArray) (i : Nat) (b : UInt8) (h : s.data.toList[i]? = some b) : byteAt s i = b.toNat := by
  have hi : i < s.size := by rw [Lib.size_eq]; exact (List.getElem?_eq_some_iff.1 h).1
  rw [byteAt_list s i hi] at h
  have hb := byteAt_lt s i
  injection h with h
  rw [← h, UInt8.toNat_ofNat']
  omega
theorem size_extract0 (s : ByteArray) (k : Nat) (hk : k ≤ s.size) : (s.extract 0 k).size = k := by simp only [ByteArray.size_extract]; omega
theorem byteAt_extract (s : ByteArray) (k i : Nat) (hk : k ≤ s.size) (hi : i < k) : byteAt (s.extract 0 k) i = byteAt s i := by
  refine (byteAt_of_list _ _ (UInt8.ofNat (byteAt s i)) ?_).trans ?_
  · rw [Lib.extract_data, List.drop_zero, Nat.sub_zero, List.getElem?_take, if_pos hi]
    exact byteAt_list s i (by omega)
  · have := byteAt_lt s i
    rw [UInt8.toNat_ofNat']
    omega

set_option maxRecDepth 10000 in
theorem decode_prefix (s : ByteArray) (k i : Nat) (hk : k ≤ s.size) (h : plainAt s i = true) (hw : i + wid s i ≤ k) : Utf8.decode (s.extract 0 k) i = Utf8.decode s i := by
  have hz := size_extract0 s k hk
  have hp := wid_pos s i
  have e0 := byteAt_extract s k i hk (by omega)
  have e1 : i + 1 < k → byteAt (s.extract 0 k) (i + 1) = byteAt s (i + 1) := byteAt_extract s k (i + 1) hk
  have e2 : i + 2 < k → byteAt (s.extract 0 k) (i + 2) = byteAt s (i + 2) := byteAt_extract s k (i + 2) hk
  have e3 : i + 3 < k → byteAt (s.extract 0 k) (i + 3) = byteAt s (i + 3) := byteAt_extract s k (i + 3) hk
  have hne : ¬ Utf8.decode s i = (65533, 1) := by
    intro h'
    unfold plainAt rn at h
    rw [h'] at h
    exact absurd h (by decide)
  have hD := decode_of s i
  unfold wid at hw
  rw [decode_of (s.extract 0 k) i, hz, e0]
  generalize Utf8.decode s i = D at hD hne hw ⊢
  repeat' split at hD
  all_goals first
    | exact absurd hD hne
    | (subst hD
       simp only [] at hw
       first
         | rw [if_pos (by assumption)]
         | (rw [e1 (by omega), if_neg (by assumption), if_pos (by omega), if_pos (by assumption)])
         | (rw [e1 (by omega), e2 (by omega), if_neg (by assumption), if_neg (by omega), if_pos (by omega), if_pos (by assumption)])
         | (rw [e1 (by omega), e2 (by omega), e3 (by omega), if_neg (by assumption), if_neg (by omega), if_neg (by omega), if_pos (by omega), if_pos (by assumption)]))

theorem take_partL (s : ByteArray) (k i : Nat) (hk : k < s.size) (h47 : byteAt s k = 47) (hi : i ≤ k) : partL (s.extract 0 k) i = partL s i := by
  have key : ∀ (i k : Nat) (l : List UInt8), l[k]? = some 47 → i ≤ k → ((l.take k).drop i).takeWhile (· != 47) = (l.drop i).takeWhile (· != 47) := by
    intro i
    induction i with
    | zero =>
      intro k
      induction k with
      | zero =>
        intro l h _
        cases l with
        | nil => rfl
        | cons b l => simp at h; subst h; rfl
      | succ k ih =>
        intro l h _
        cases l with
        | nil => rfl
        | cons b l =>
          have := ih l (by simpa using h) (by omega)
          simp only [List.drop_zero] at this
          simp [List.take_succ_cons, List.takeWhile_cons, this]
    | succ i ih =>
      intro k l h hi
      cases l with
      | nil => simp at h
      | cons b l =>
        obtain ⟨k, rfl⟩ : ∃ k', k = k' + 1 := ⟨k - 1, by omega⟩
        simpa [List.take_succ_cons] using ih k l (by simpa using h) (by omega)
  unfold partL
  rw [Lib.extract_data, List.drop_zero, Nat.sub_zero]
  refine key i k _ ?_ hi
  rw [byteAt_list s k hk, h47]
  rfl

/-- a scan that goes through goes through what stands ahead of a slash -/
theorem scan_prefix (s : ByteArray) (k : Nat) (hk : k < s.size) (h47 : byteAt s k = 47) : ∀ f pos, pos ≤ k → s.size ≤ pos + f → (checkFrom s f pos).1 = 0 → (checkFrom (s.extract 0 k) f pos).1 = 0 ∧ (0 < k → byteAt s (k - 1) ≠ 47) := by
  have hz := size_extract0 s k (by omega)
  intro f
  induction f with
  | zero => intro pos h1 h2 _; omega
  | succ f ih =>
    intro pos h1 h2 h
    rw [checkFrom, if_pos (by omega)] at h
    rcases Nat.eq_or_lt_of_le h1 with rfl | hlt
    · rw [if_pos h47] at h
      constructor
      · rw [checkFrom, if_neg (by omega)]
      · intro h0 hv
        rw [if_pos ⟨h0, hv⟩] at h
        simp at h
    · rw [checkFrom, if_pos (by omega), byteAt_extract s k pos (by omega) hlt]
      by_cases hb : byteAt s pos = 47
      · rw [if_pos hb] at h ⊢
        by_cases hv : 0 < pos ∧ byteAt s (pos - 1) = 47
        · rw [if_pos hv] at h
          simp at h
        · rw [if_neg hv] at h
          rw [if_neg (fun hh => hv ⟨hh.1, by rw [← byteAt_extract s k (pos - 1) (by omega) (by omega)]; exact hh.2⟩), take_partL s k (pos + 1) hk h47 (by omega)]
          by_cases hd : dotsL (partL s (pos + 1)) = true
          · rw [if_pos hd] at h
            simp at h
          · rw [if_neg hd] at h ⊢
            exact ih (pos + 1) (by omega) (by omega) h
      · rw [if_neg hb] at h ⊢
        by_cases hpl : plainAt s pos = true
        · rw [if_pos hpl] at h
          have hwk : pos + wid s pos ≤ k := by
            rcases Nat.lt_or_ge k (pos + wid s pos) with h' | h'
            · have := wid_in s pos k hlt h'
              omega
            · exact h'
          have hd := decode_prefix s k pos (by omega) hpl hwk
          have hw : wid (s.extract 0 k) pos = wid s pos := by unfold wid; rw [hd]
          have hp : plainAt (s.extract 0 k) pos = plainAt s pos := by unfold plainAt rn; rw [hd]
          have := wid_pos s pos
          rw [hp, if_pos hpl, hw]
          exact ih _ (by omega) (by omega) h
        · rw [if_neg hpl] at h
          simp at h

/-- more fuel than bytes are left changes nothing -/
theorem checkFrom_fuel (s : ByteArray) : ∀ f g pos, s.size ≤ pos + f → s.size ≤ pos + g → checkFrom s f pos = checkFrom s g pos := by
  intro f
  induction f with
  | zero =>
    intro g pos h _
    cases g with
    | zero => rfl
    | succ g => rw [checkFrom, checkFrom, if_neg (by omega)]
  | succ f ih =>
    intro g pos h h'
    cases g with
    | zero => rw [checkFrom, checkFrom, if_neg (by omega)]
    | succ g =>
      have := wid_pos s pos
      rw [checkFrom, checkFrom]
      split
      · split
        · split
          · rfl
          · split
            · rfl
            · exact ih g _ (by omega) (by omega)
        · split
          · exact ih g _ (by omega) (by omega)
          · rfl
      · rfl

def okS (s : ByteArray) : Prop := (checkOf s).1 = 0
theorem ok_parts {s : ByteArray} (h : okS s) : 0 < s.size ∧ s.size ≤ 4096 ∧ byteAt s 0 = 47 ∧ (s.size = 1 ∨ (byteAt s (s.size - 1) ≠ 47 ∧ (checkFrom s s.size 0).1 = 0)) := by
  unfold okS checkOf at h
  by_cases h0 : s.size = 0
  · rw [if_pos h0] at h; simp at h
  rw [if_neg h0] at h
  by_cases h1 : 4096 < s.size
  · rw [if_pos h1] at h; simp at h
  rw [if_neg h1] at h
  by_cases h2 : byteAt s 0 = 47
  · rw [if_neg (by omega)] at h
    by_cases h3 : s.size = 1
    · exact ⟨by omega, by omega, h2, .inl h3⟩
    · rw [if_neg h3] at h
      by_cases h4 : byteAt s (s.size - 1) = 47
      · rw [if_pos h4] at h; simp at h
      · rw [if_neg h4] at h
        exact ⟨by omega, by omega, h2, .inr ⟨h4, h⟩⟩
  · rw [if_pos h2] at h; simp at h
theorem ok_of {s : ByteArray} (h0 : 0 < s.size) (h1 : s.size ≤ 4096) (h2 : byteAt s 0 = 47) (h3 : s.size = 1 ∨ (byteAt s (s.size - 1) ≠ 47 ∧ (checkFrom s s.size 0).1 = 0)) : okS s := by
  unfold okS checkOf
  rw [if_neg (by omega), if_neg (by omega), if_neg (by omega)]
  by_cases h : s.size = 1
  · rw [if_pos h]
  · rw [if_neg h]
    rcases h3 with h3 | ⟨h3, h4⟩
    · exact absurd h3 h
    · rw [if_neg h3]; exact h4
theorem ok_prefix {s : ByteArray} (h : okS s) (k : Nat) (h0 : 0 < k) (hk : k < s.size) (h47 : byteAt s k = 47) : okS (s.extract 0 k) := by
  obtain ⟨a, b, c, d⟩ := ok_parts h
  rcases d with d | ⟨d, e⟩
  · omega
  have hz := size_extract0 s k (by omega)
  obtain ⟨x, y⟩ := scan_prefix s k hk h47 s.size 0 (by omega) (by omega) e
  refine ok_of (by omega) (by omega) (by rw [byteAt_extract s k 0 (by omega) h0]; exact c) (.inr ⟨?_, ?_⟩)
  · rw [hz, byteAt_extract s k (k - 1) (by omega) (by omega)]
    exact y h0
  · rw [checkFrom_fuel (s.extract 0 k) _ s.size 0 (by omega) (by omega)]
    exact x

/-- the last slash ahead of a place -/
def lastFrom (s : ByteArray) : Nat → Nat
  | 0 => 0
  | n + 1 => if byteAt s n = 47 then n else lastFrom s n
def lastS (s : ByteArray) : Nat := lastFrom s s.size
theorem lastFrom_spec (s : ByteArray) (h0 : byteAt s 0 = 47) : ∀ n, 0 < n → lastFrom s n < n ∧ byteAt s (lastFrom s n) = 47 ∧ ∀ j, lastFrom s n < j → j < n → byteAt s j ≠ 47 := by
  intro n
  induction n with
  | zero => intro h; omega
  | succ n ih =>
    intro _
    rw [lastFrom]
    by_cases h : byteAt s n = 47
    · rw [if_pos h]
      exact ⟨by omega, h, fun j h1 h2 => by omega⟩
    · rw [if_neg h]
      rcases Nat.eq_zero_or_pos n with rfl | hn
      · exact absurd h0 h
      · obtain ⟨a, b, c⟩ := ih hn
        refine ⟨by omega, b, fun j h1 h2 => ?_⟩
        rcases Nat.eq_or_lt_of_le (Nat.le_of_lt_succ h2) with rfl | h3
        · exact h
        · exact c j h1 h3
def parentS (s : ByteArray) : ByteArray := if lastS s = 0 then ⟨#[47]⟩ else s.extract 0 (lastS s)
theorem ok_root : okS ⟨#[47]⟩ := by
  show (checkOf ⟨#[47]⟩).1 = 0
  decide
theorem ok_parent {s : ByteArray} (h : okS s) : okS (parentS s) ∧ (s.size ≠ 1 → (parentS s).size < s.size) := by
  obtain ⟨a, b, c, d⟩ := ok_parts h
  obtain ⟨x, y, z⟩ := lastFrom_spec s c s.size a
  unfold parentS
  by_cases hl : lastS s = 0
  · rw [if_pos hl]
    exact ⟨ok_root, fun h1 => by show 1 < s.size; omega⟩
  · rw [if_neg hl]
    unfold lastS at hl ⊢
    exact ⟨ok_prefix h _ (by omega) x y, fun _ => by rw [size_extract0 s _ (by omega)]; exact x⟩
end Go.Proofs.YtaojjjcaofhmcaaDoor
/- Valid; the reference's last slash and parent: the walks. -/
namespace Go.Proofs.YtaojjjcaofhmcaaDoor
open Go.RowKit

def okB (s : ByteArray) : Bool := (checkOf s).1 == 0
theorem okB_iff (s : ByteArray) : okB s = true ↔ okS s := by unfold okB okS; simp
theorem valid_ok (s : ByteArray) (w : World) (m : Int) (hm : w.cell? ⟨5, 0, none⟩ = some (.int .i64 m)) (hG : 5 < w.heap.size) :
    Calls Tryd.prog 52 #[.string s] w fun e w' => e = .returned (.bool (okB s)) ∧ Below w.heap.size w w' := pvalid_any s w m hm hG
theorem rvalid_ok (s : ByteArray) (w : World) : Calls Tryd.prog 57 #[.string s] w fun e w' => e = .returned (.bool (okB s)) ∧ ∃ n, w' = w.drewN n := rvalid_any s w

theorem ok_one {a : ByteArray} (h : okS a) (h1 : (a.toList == [47]) = false) : 2 ≤ a.size := by
  obtain ⟨x, _, y, _⟩ := ok_parts h
  rw [toList_one] at h1
  have h1 := of_decide_eq_false h1
  have : a.size ≠ 1 := fun hh => h1 ⟨hh, y⟩
  omega

theorem root_false {s : ByteArray} (h : s.size ≠ 1) : (s.toList == [47]) = false := by
  rw [toList_one]
  exact decide_eq_false (fun hh => h hh.1)

end Go.Proofs.YtaojjjcaofhmcaaDoor
