/- Parent, Under, Order by the reference: the walks. -/
import Derived.Test.YtkhnchahoidbaaaPa11
namespace Go.Proofs.Ytkhnchahoidbaaa
open Go.RowKit

theorem list_ne_of_size {a b : ByteArray} (h : (a.toList == b.toList) = true) : a = b := by
  rw [Lib.toList_data, Lib.toList_data, beq_iff_eq] at h
  rw [← Lib.mk_data a, ← Lib.mk_data b, h]
theorem ok_one {a : ByteArray} (h : okS a) (h1 : (a.toList == [47]) = false) : 2 ≤ a.size := by
  obtain ⟨x, _, y, _⟩ := ok_parts h
  rw [toList_one] at h1
  have h1 := of_decide_eq_false h1
  have : a.size ≠ 1 := fun hh => h1 ⟨hh, y⟩
  omega

theorem pre_iff (A Q : List UInt8) (l : Nat) (hl : Q[l]? = some 47) (hafter : ∀ j, l < j → Q[j]? ≠ some 47) : ((A = Q.take l) ∨ (A ++ [47]) <+: Q.take l) ↔ (A ++ [47]) <+: Q := by
  have hlt : l < Q.length := (List.getElem?_eq_some_iff.1 hl).1
  have hstep : Q.take (l + 1) = Q.take l ++ [47] := by
    rw [List.take_add_one, hl]; rfl
  constructor
  · rintro (h | h)
    · rw [h, ← hstep]
      exact List.take_prefix _ _
    · exact h.trans (List.take_prefix _ _)
  · intro h
    have hle : A.length ≤ l := by
      rcases Nat.lt_or_ge l A.length with h' | h'
      · exfalso
        refine hafter A.length h' ?_
        obtain ⟨t, rfl⟩ := h
        simp
      · exact h'
    have he := List.prefix_iff_eq_take.1 h
    simp only [List.length_append, List.length_cons, List.length_nil, Nat.zero_add] at he
    rcases Nat.eq_or_lt_of_le hle with h' | h'
    · left
      have := congrArg (List.take A.length) he
      rw [List.take_left, List.take_take, Nat.min_eq_left (by omega)] at this
      rw [← h']
      exact this
    · right
      rw [he]
      rw [List.prefix_iff_eq_take]
      rw [List.take_take, List.length_take, Nat.min_eq_left (by omega), Nat.min_eq_left (by omega)]

theorem und_iff (a p : ByteArray) : undB a p = true ↔ (a.data.toList = p.data.toList ∨ a.data.toList = [47] ∨ (a.data.toList ++ [47]) <+: p.data.toList) := by
  unfold undB Lib.hasPrefix
  rw [Lib.toList_data, Lib.toList_data]
  simp only [Bool.or_eq_true, beq_iff_eq, List.isPrefixOf_iff_prefix]
  rw [show (a ++ ⟨#[47]⟩ : ByteArray).data.toList = a.data.toList ++ [47] by simp, or_assoc]

theorem und_parent {a q : ByteArray} (ha : okS a) (hq : okS q) (hne : (q.toList == a.toList) = false) : undB a (parentS q) = undB a q := by
  rw [Bool.eq_iff_iff, und_iff, und_iff]
  rw [Lib.toList_data, Lib.toList_data, beq_eq_false_iff_ne] at hne
  have hne' : a.data.toList ≠ q.data.toList := fun h => hne h.symm
  by_cases hA : a.data.toList = [47]
  · simp [hA]
  have ha2 : 2 ≤ a.data.toList.length := by
    rw [← Lib.size_eq]
    refine ok_one ha ?_
    rw [Lib.toList_data, beq_eq_false_iff_ne]
    exact hA
  obtain ⟨x, _, y, _⟩ := ok_parts hq
  obtain ⟨l1, l2, l3⟩ := lastFrom_spec q y q.size x
  have hl : q.data.toList[lastS q]? = some 47 := by
    unfold lastS
    rw [byteAt_list q _ l1, l2]
    rfl
  have hafter : ∀ j, lastS q < j → q.data.toList[j]? ≠ some 47 := by
    intro j hj h
    have hjl : j < q.size := by rw [Lib.size_eq]; exact (List.getElem?_eq_some_iff.1 h).1
    exact l3 j hj hjl (byteAt_of_list q j 47 h)
  have key := pre_iff a.data.toList q.data.toList (lastS q) hl hafter
  unfold parentS
  by_cases h0 : lastS q = 0
  · rw [if_pos h0]
    rw [h0] at key
    simp only [hA, false_or, hne']
    rw [← key]
    constructor
    · intro h
      have := h.length_le
      rw [List.length_append] at this
      have e : ([47] : List UInt8).length = 1 := rfl
      have e' : (⟨#[47]⟩ : ByteArray).data.toList.length = 1 := rfl
      omega
    · rintro (h | h)
      · rw [h] at ha2
        simp at ha2
      · have := h.length_le
        simp at this
  · rw [if_neg h0, Lib.extract_data, List.drop_zero, Nat.sub_zero]
    simp only [hA, false_or, hne']
    exact key

set_option maxRecDepth 100000 in
set_option maxHeartbeats 1000000 in
theorem rlast_any (s : ByteArray) (h0 : byteAt s 0 = 47) (hp : 0 < s.size) (hs : s.size ≤ 140737488355328) (w : World) :
    Calls Try.prog 33 #[.string s] w fun e w' => e = .returned (.int .i64 (lastS s)) ∧ w = w' := by
  go_enter Try.func33, Try.ntmps33
  go_wp2
  go_loopw [3] (fun v wr => ∃ k : Nat, v = .int .i64 k ∧ k < s.size ∧ Hid (lastFrom s (k + 1) = lastS s) ∧ wr = w) (fun v _ => (intOf v).toNat)
  case atStart => exact ⟨s.size - 1, by simp; omega, by omega, by show _ = _; rw [show s.size - 1 + 1 = s.size by omega]; rfl, rfl⟩
  case round =>
    obtain ⟨k, rfl, hk, HL, rfl⟩ := hrel
    have hx := fun kd W => run_byte (P := Try.prog) W 9 s kd k Try.underlying9 hk
    have hbl := byteAt_lt s k
    by_cases hb : byteAt s k = 47
    · have e : lastS s = k := by rw [← HL.out, lastFrom, if_pos hb]
      clear HL
      go_wp2
      go_ret
      exact ⟨(by first | rfl | (rw [e]; rfl)), rfl⟩
    · have hk0 : k ≠ 0 := fun h => hb (by rw [h]; exact h0)
      have HL2 : Hid (lastFrom s (k - 1 + 1) = lastS s) := by
        show _ = _
        rw [← HL.out, lastFrom.eq_def s (k + 1)]
        simp only [hb, if_false]
        rw [show k - 1 + 1 = k by omega]
      clear HL
      go_wp2
      go_roundw
      case rel => exact ⟨k - 1, by simp; omega, by omega, HL2, by trivial⟩
      case measure => simp [intOf]; omega

theorem root_false {s : ByteArray} (h : s.size ≠ 1) : (s.toList == [47]) = false := by
  rw [toList_one]
  exact decide_eq_false (fun hh => h hh.1)

set_option maxRecDepth 100000 in
set_option maxHeartbeats 1000000 in
theorem rparent_any (s : ByteArray) (h : okB s = true) (hr : (s.toList == [47]) = false) (w : World) :
    Calls Try.prog 25 #[.string s] w fun e w' => e = .returned (.tuple #[.string (parentS s), .int .i64 0]) ∧ ∃ n, w' = w.drewN n := by
  obtain ⟨x, y, z, _⟩ := ok_parts ((okB_iff s).1 h)
  have HK := Lib.hid h
  have hlt := (lastFrom_spec s z s.size x).1
  change lastS s < s.size at hlt
  clear h
  by_cases h0 : lastS s = 0
  · have e : parentS s = ⟨#[47]⟩ := by unfold parentS; rw [if_pos h0]
    rw [e]
    have HL : ∀ W, Calls Try.prog 33 #[.string s] W fun e w' => e = .returned (.int .i64 0) ∧ W = w' := fun W => by
      have := rlast_any s z x (by omega) W
      rw [h0] at this
      exact this
    have HLL := Lib.hid HL
    clear HL e h0 hlt
    go_enter Try.func25, Try.ntmps25
    go_wp2_with (first
      | (go_at_call 10; refine (rvalid_ok s _).mono ?_; rintro e w1 ⟨rfl, n0, rfl⟩; rw [HK.out])
      | (go_at_call 33; refine (HLL.out _).mono ?_; rintro e w2 ⟨rfl, rfl⟩))
    go_ret2
    exact ⟨rfl, n0, rfl⟩
  · have e : parentS s = s.extract 0 (lastS s) := by unfold parentS; rw [if_neg h0]
    rw [e]
    clear e
    go_enter Try.func25, Try.ntmps25
    go_wp2_with (first
      | (go_at_call 10; refine (rvalid_ok s _).mono ?_; rintro e w1 ⟨rfl, n0, rfl⟩; rw [HK.out])
      | (go_at_call 33; refine (rlast_any s z x (by omega) _).mono ?_; rintro e w2 ⟨rfl, rfl⟩))
    go_ret2
    exact ⟨rfl, n0, rfl⟩
end Go.Proofs.Ytkhnchahoidbaaa
