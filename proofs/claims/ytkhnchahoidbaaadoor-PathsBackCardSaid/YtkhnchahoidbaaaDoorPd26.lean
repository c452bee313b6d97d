/- The chain of what is above a path, plainly. -/
import Derived.Test.YtkhnchahoidbaaaDoorPd25
import Derived.Test.YtkhnchahoidbaaaDoorPd14
namespace Go.Proofs.YtkhnchahoidbaaaDoor
open Go.RowKit

theorem pre_iff (A Q : List UInt8) (l : Nat) (hl : Q[l]? = some 47) (hafter : ∀ j, l < j → Q[j]? ≠ some 47) : ((A = Q.take l) ∨ (A ++ [47]) <+: Q.take l) ↔ (A ++ [47]) <+: Q := by
  have hlt : l < Q.length := (List.getElem?_eq_some_iff.1 hl).1
  have hstep : Q.take (l + 1) = Q.take l ++ [47] := by
    rw [List.take_add_one, hl]; rfl
  constructor
  · rintro (h | h)
    · rw [h, ← hstep]
      exact List.take_prefix _ _
    · exact h.trans (List.take_prefix _ _)
  · intro h
    have hle : A.length ≤ l := by
      rcases Nat.lt_or_ge l A.length with h' | h'
      · exfalso
        refine hafter A.length h' ?_
        obtain ⟨t, rfl⟩ := h
        simp
      · exact h'
    have he := List.prefix_iff_eq_take.1 h
    simp only [List.length_append, List.length_cons, List.length_nil, Nat.zero_add] at he
    rcases Nat.eq_or_lt_of_le hle with h' | h'
    · left
      have := congrArg (List.take A.length) he
      rw [List.take_left, List.take_take, Nat.min_eq_left (by omega)] at this
      rw [← h']
      exact this
    · right
      rw [he]
      rw [List.prefix_iff_eq_take]
      rw [List.take_take, List.length_take, Nat.min_eq_left (by omega), Nat.min_eq_left (by omega)]

theorem und_parent {a q : ByteArray} (ha : okS a) (hq : okS q) (hne : (q.toList == a.toList) = false) : undB a (parentS q) = undB a q := by
  rw [Bool.eq_iff_iff, und_iff, und_iff]
  rw [Lib.toList_data, Lib.toList_data, beq_eq_false_iff_ne] at hne
  have hne' : a.data.toList ≠ q.data.toList := fun h => hne h.symm
  by_cases hA : a.data.toList = [47]
  · simp [hA]
  have ha2 : 2 ≤ a.data.toList.length := by
    rw [← Lib.size_eq]
    refine ok_one ha ?_
    rw [Lib.toList_data, beq_eq_false_iff_ne]
    exact hA
  obtain ⟨x, _, y, _⟩ := ok_parts hq
  obtain ⟨l1, l2, l3⟩ := lastFrom_spec q y q.size x
  have hl : q.data.toList[lastS q]? = some 47 := by
    unfold lastS
    rw [byteAt_list q _ l1, l2]
    rfl
  have hafter : ∀ j, lastS q < j → q.data.toList[j]? ≠ some 47 := by
    intro j hj h
    have hjl : j < q.size := by rw [Lib.size_eq]; exact (List.getElem?_eq_some_iff.1 h).1
    exact l3 j hj hjl (byteAt_of_list q j 47 h)
  have key := pre_iff a.data.toList q.data.toList (lastS q) hl hafter
  unfold parentS
  by_cases h0 : lastS q = 0
  · rw [if_pos h0]
    rw [h0] at key
    simp only [hA, false_or, hne']
    rw [← key]
    constructor
    · intro h
      have := h.length_le
      rw [List.length_append] at this
      have e : ([47] : List UInt8).length = 1 := rfl
      have e' : (⟨#[47]⟩ : ByteArray).data.toList.length = 1 := rfl
      omega
    · rintro (h | h)
      · rw [h] at ha2
        simp at ha2
      · have := h.length_le
        simp at this
  · rw [if_neg h0, Lib.extract_data, List.drop_zero, Nat.sub_zero]
    simp only [hA, false_or, hne']
    exact key


theorem no_double {s : ByteArray} (h : okS s) (k : Nat) (h0 : 0 < k) (hk : k < s.size) (h47 : byteAt s k = 47) : byteAt s (k - 1) ≠ 47 := by
  obtain ⟨_, _, _, d⟩ := ok_parts h
  rcases d with d | ⟨_, d⟩
  · omega
  · exact (scan_prefix s k hk h47 s.size 0 (by omega) (by omega) d).2 h0

/-- a part ends at the next slash -/
theorem partL_at (s : ByteArray) (i j : Nat) (hi : i ≤ j) (hj : j ≤ s.size) (ha : ∀ k, i ≤ k → k < j → byteAt s k ≠ 47) (hs : j = s.size ∨ byteAt s j = 47) : (partL s i).length = j - i ∧ s.extract i j = ⟨(partL s i).toArray⟩ := by
  have e := part_extract s i j hi hj ha hs
  refine ⟨?_, e⟩
  have hz : (s.extract i j).size = j - i := by simp only [ByteArray.size_extract]; omega
  rw [e, Lib.size_eq] at hz
  exact hz
/-- there is a next slash ahead of a known one -/
theorem next_slash (s : ByteArray) (l : Nat) (h47 : byteAt s l = 47) : ∀ d i, i + d = l → ∃ j, i ≤ j ∧ j ≤ l ∧ byteAt s j = 47 ∧ ∀ k, i ≤ k → k < j → byteAt s k ≠ 47 := by
  intro d
  induction d with
  | zero => exact fun i hi => ⟨i, Nat.le_refl _, by omega, by rw [show i = l by omega]; exact h47, fun k h1 h2 => by omega⟩
  | succ d ih =>
    intro i hi
    by_cases h : byteAt s i = 47
    · exact ⟨i, Nat.le_refl _, by omega, h, fun k h1 h2 => by omega⟩
    · obtain ⟨j, a, b, c, e⟩ := ih (i + 1) (by omega)
      refine ⟨j, by omega, b, c, fun k h1 h2 => ?_⟩
      rcases Nat.eq_or_lt_of_le h1 with rfl | h3
      · exact h
      · exact e k h3 h2

theorem parts_step (s : ByteArray) (hok : okS s) (l : Nat) (hl : l < s.size) (h47 : byteAt s l = 47) (hlast : ∀ j, l < j → j < s.size → byteAt s j ≠ 47) : ∀ f i, i < l → s.size ≤ i + f →
    partsF s f i = partsF (s.extract 0 l) f i ++ [s.extract (l + 1) s.size] := by
  have hz := size_extract0 s l (by omega)
  intro f
  induction f with
  | zero => intro i h1 h2; omega
  | succ f ih =>
    intro i h1 h2
    obtain ⟨j, a, b, c, e⟩ := next_slash s l h47 (l - i) i (by omega)
    obtain ⟨p1, _⟩ := partL_at s i j a (by omega) e (.inr c)
    rw [partsF, partsF, if_pos (by omega), if_pos (by omega), take_partL s l i hl h47 (by omega), p1]
    rcases Nat.eq_or_lt_of_le b with rfl | hjl
    · rw [show i + (j - i) + 1 = j + 1 by omega]
      have hend : partsF (s.extract 0 j) f (j + 1) = [] := by
        cases f with
        | zero => rfl
        | succ f => rw [partsF, if_neg (by omega)]
      have hne : j + 1 < s.size ∨ j + 1 = s.size := by omega
      obtain ⟨q1, q2⟩ := partL_at s (j + 1) s.size (by omega) (Nat.le_refl _) (fun k h3 h4 => hlast k (by omega) h4) (.inl rfl)
      rw [hend]
      rcases hne with hne | hne
      · obtain ⟨f, rfl⟩ : ∃ f', f = f' + 1 := ⟨f - 1, by omega⟩
        rw [partsF, if_pos hne, q1, ← q2]
        have hend2 : partsF s f (j + 1 + (s.size - (j + 1)) + 1) = [] := by
          cases f with
          | zero => rfl
          | succ f => rw [partsF, if_neg (by omega)]
        rw [hend2]
        rfl
      · exfalso
        obtain ⟨_, _, _, d⟩ := ok_parts hok
        rcases d with d | ⟨d, _⟩
        · omega
        · rw [← hne, Nat.add_sub_cancel] at d
          exact d c
    · have hnd := no_double hok
      have hj1 : j + 1 < l := by
        rcases Nat.eq_or_lt_of_le (show j + 1 ≤ l by omega) with h5 | h5
        · exfalso
          have := hnd l (by omega) hl h47
          rw [← h5, Nat.add_sub_cancel] at this
          exact this c
        · exact h5
      rw [show i + (j - i) + 1 = j + 1 by omega, ih (j + 1) hj1 (by omega)]
      rfl

def nameS (s : ByteArray) : ByteArray := s.extract (lastS s + 1) s.size
theorem parts_parent {q : ByteArray} (h : okS q) (h1 : q.size ≠ 1) : partsOf q = partsOf (parentS q) ++ [nameS q] := by
  obtain ⟨x, y, z, zz⟩ := ok_parts h
  obtain ⟨l1, l2, l3⟩ := lastFrom_spec q z q.size x
  change lastS q < q.size at l1
  change byteAt q (lastS q) = 47 at l2
  have hp := ok_parent h
  have e1 : partsOf q = partsF q q.size 1 := by unfold partsOf; rw [if_pos ((okB_iff q).2 h)]
  have e2 : partsOf (parentS q) = partsF (parentS q) (parentS q).size 1 := by unfold partsOf; rw [if_pos ((okB_iff _).2 hp.1)]
  rw [e1, e2]
  by_cases h0 : lastS q = 0
  · have e3 : parentS q = ⟨#[47]⟩ := by unfold parentS; rw [if_pos h0]
    have e4 : partsF (⟨#[47]⟩ : ByteArray) (⟨#[47]⟩ : ByteArray).size 1 = [] := by decide
    rw [e3, e4, List.nil_append]
    obtain ⟨q1, q2⟩ := partL_at q 1 q.size (by omega) (Nat.le_refl _) (fun k h3 h4 => l3 k (by show lastS q < k; omega) h4) (.inl rfl)
    obtain ⟨n, hn⟩ : ∃ n, q.size = n + 1 := ⟨q.size - 1, by omega⟩
    have hend : partsF q n (1 + (q.size - 1) + 1) = [] := by
      cases n with
      | zero => rfl
      | succ f => rw [partsF, if_neg (by omega)]
    rw [show partsF q q.size 1 = partsF q (n + 1) 1 by rw [hn], partsF, if_pos (by omega), q1, hend, ← q2]
    unfold nameS
    rw [h0]
  · have e3 : parentS q = q.extract 0 (lastS q) := by unfold parentS; rw [if_neg h0]
    have hne : lastS q ≠ 1 := by
      intro h5
      have := no_double h 1 (by decide) (by omega) (by rw [← h5]; exact l2)
      exact this z
    rw [parts_step q h (lastS q) l1 l2 l3 q.size 1 (by omega) (by omega), e3]
    rw [partsF_fuel (q.extract 0 (lastS q)) q.size (q.extract 0 (lastS q)).size 1 (by rw [size_extract0 q _ (by omega)]; omega) (by omega)]
    rfl

/-- the chain: from the root to the path -/
def chainF (f : Nat) (q : ByteArray) : List ByteArray := (aboveF f q).reverse ++ [q]
theorem chain_all : ∀ f q, okS q → q.size ≤ f + 1 →
    (chainF f q).length = (partsOf q).length + 1 ∧ (chainF f q)[0]? = some ⟨#[47]⟩ ∧ (∀ x ∈ chainF f q, underB x q = true) ∧
    ∀ i x y n, (chainF f q)[i]? = some x → (chainF f q)[i + 1]? = some y → (partsOf q)[i]? = some n → okB y = true ∧ parB y = true ∧ parentS y = x ∧ nameS y = n := by
  intro f
  induction f with
  | zero =>
    intro q h hq
    obtain ⟨x, _, z, _⟩ := ok_parts h
    have h1 : q.size = 1 := by omega
    have hr : q = ⟨#[47]⟩ := by
      have := toList_one q 47
      rw [h1, z] at this
      have : (q.toList == (⟨#[47]⟩ : ByteArray).toList) = true := by
        rw [show (⟨#[47]⟩ : ByteArray).toList = [47] from by simp, this]
        decide
      rw [Lib.toList_data, Lib.toList_data, beq_iff_eq] at this
      rw [← Lib.mk_data q, this]
    subst hr
    have hp : partsOf ⟨#[47]⟩ = [] := by kernel_rfl
    have hc : chainF 0 ⟨#[47]⟩ = [⟨#[47]⟩] := rfl
    rw [hc, hp]
    refine ⟨rfl, rfl, ?_, ?_⟩
    · intro x hx
      rw [List.mem_singleton.1 hx]
      kernel_rfl
    · intro i x y n _ h2 _
      simp at h2
  | succ f ih =>
    intro q h hq
    by_cases hr : (q.toList == [47]) = true
    · have hc : chainF (f + 1) q = [q] := by
        unfold chainF
        rw [aboveF, if_pos hr]
        rfl
      have hr' : q = ⟨#[47]⟩ := by
        rw [Lib.toList_data, beq_iff_eq] at hr
        rw [← Lib.mk_data q, hr]
      have hp : partsOf ⟨#[47]⟩ = [] := by kernel_rfl
      rw [hc]
      subst hr'
      rw [hp]
      refine ⟨rfl, rfl, ?_, ?_⟩
      · intro x hx
        rw [List.mem_singleton.1 hx]
        kernel_rfl
      · intro i x y n _ h2 _
        simp at h2
    · have hr0 : (q.toList == [47]) = false := by simpa using hr
      have h2 := ok_one h hr0
      have hpar := ok_parent h
      have hlt := hpar.2 (by omega)
      have hc : chainF (f + 1) q = chainF f (parentS q) ++ [q] := by
        unfold chainF
        rw [aboveF, if_neg hr, List.reverse_cons]
      obtain ⟨i1, i2, i3, i4⟩ := ih (parentS q) hpar.1 (by omega)
      have hpp := parts_parent h (by omega)
      have hlen : (chainF (f + 1) q).length = (partsOf q).length + 1 := by
        rw [hc, hpp, List.length_append, List.length_append, i1]
        rfl
      have hup : underB (parentS q) q = true := by
        have hne : (q.toList == (parentS q).toList) = false := by
          rw [beq_eq_false_iff_ne]
          intro e
          rw [Lib.toList_data, Lib.toList_data] at e
          have := congrArg List.length e
          rw [← Lib.size_eq, ← Lib.size_eq] at this
          omega
        have := und_parent hpar.1 h hne
        unfold underB
        rw [(okB_iff _).2 hpar.1, (okB_iff q).2 h, ← this]
        unfold undB
        simp
      refine ⟨hlen, ?_, ?_, ?_⟩
      · rw [hc, List.getElem?_append_left (by rw [i1]; omega)]
        exact i2
      · intro x hx
        rw [hc] at hx
        rcases List.mem_append.1 hx with hx | hx
        · exact under_trans (i3 x hx) hup
        · rw [List.mem_singleton.1 hx]
          exact under_mk ((okB_iff q).2 h) ((okB_iff q).2 h) (.inl rfl)
      · intro i x y n hx hy hn
        rw [hc] at hx hy
        rw [hpp] at hn
        rcases Nat.lt_or_ge (i + 1) (chainF f (parentS q)).length with h5 | h5
        · rw [List.getElem?_append_left (by omega)] at hx hy
          rw [List.getElem?_append_left (by omega)] at hn
          exact i4 i x y n hx hy hn
        · have hn' : i < (partsOf (parentS q) ++ [nameS q]).length := (List.getElem?_eq_some_iff.1 hn).1
          rw [List.length_append] at hn'
          simp only [List.length_cons, List.length_nil] at hn'
          have hi : i = (partsOf (parentS q)).length := by omega
          rw [List.getElem?_append_right (by omega)] at hn
          rw [List.getElem?_append_right (by omega)] at hy
          rw [List.getElem?_append_left (by omega)] at hx
          rw [i1, hi] at hy
          rw [hi] at hn
          simp at hy hn
          subst hy hn
          have hlast : (chainF f (parentS q))[i]? = some (parentS q) := by
            unfold chainF
            have hl : (aboveF f (parentS q)).reverse.length = i := by
              have := i1
              unfold chainF at this
              rw [List.length_append] at this
              simp only [List.length_cons, List.length_nil] at this
              omega
            rw [List.getElem?_append_right (by omega), hl]
            simp
          rw [hlast] at hx
          injection hx with hx
          exact ⟨(okB_iff q).2 h, by unfold parB; rw [(okB_iff q).2 h, hr0]; rfl, hx, rfl⟩
end Go.Proofs.YtkhnchahoidbaaaDoor
