/- A path is its parent and its name; a number behind a path is read back: plain laws. -/
import Derived.Test.YtkhnchahoidbaaaDoorPd30
namespace Go.Proofs.YtkhnchahoidbaaaDoor
open Go.RowKit

/-- what a list of digits spells -/
def valL (l : List UInt8) : Nat := l.foldl (fun a b => a * 10 + (b.toNat - 48)) 0
theorem valN_list (s : ByteArray) (o : Nat) : ∀ k, o + k ≤ s.size → valN s o k = valL ((s.data.toList.drop o).take k) := by
  intro k
  induction k with
  | zero => intro _; rfl
  | succ k ih =>
    intro h
    have hb : (s.data.toList.drop o)[k]? = some (UInt8.ofNat (byteAt s (o + k))) := by
      rw [List.getElem?_drop]
      exact byteAt_list s (o + k) (by omega)
    have hlt := byteAt_lt s (o + k)
    rw [valN, ih (by omega), List.take_add_one, hb]
    unfold valL
    rw [List.foldl_append]
    simp only [Option.toList_some, List.foldl_cons, List.foldl_nil]
    rw [UInt8.toNat_ofNat', Nat.mod_eq_of_lt hlt]
def digL (l : List UInt8) : Prop := ∀ b ∈ l, 48 ≤ b.toNat ∧ b.toNat ≤ 57
theorem digN_list (s : ByteArray) (o k : Nat) (h : o + k ≤ s.size) (hd : digL ((s.data.toList.drop o).take k)) : digN s o k = true := by
  rw [digN_iff]
  intro j hj
  have hb : ((s.data.toList.drop o).take k)[j]? = some (UInt8.ofNat (byteAt s (o + j))) := by
    rw [List.getElem?_take, if_pos hj, List.getElem?_drop]
    exact byteAt_list s (o + j) (by omega)
  have := hd _ (List.mem_of_getElem? hb)
  have hlt := byteAt_lt s (o + j)
  rw [UInt8.toNat_ofNat', Nat.mod_eq_of_lt hlt] at this
  exact this
theorem dec_dig : ∀ u, digL (Lib.decDigits u) ∧ valL (Lib.decDigits u) = u := by
  intro u
  induction u using Nat.strongRecOn with
  | _ u ih =>
    rw [Lib.decDigits]
    by_cases h : u < 10
    · rw [dif_pos h]
      have e : (UInt8.ofNat (48 + u)).toNat = 48 + u := by rw [UInt8.toNat_ofNat']; omega
      refine ⟨fun b hb => ?_, ?_⟩
      · rw [List.mem_singleton.1 hb, e]
        omega
      · show 0 * 10 + ((UInt8.ofNat (48 + u)).toNat - 48) = u
        rw [e]
        omega
    · rw [dif_neg h]
      obtain ⟨a, b⟩ := ih (u / 10) (by omega)
      have e : (UInt8.ofNat (48 + u % 10)).toNat = 48 + u % 10 := by rw [UInt8.toNat_ofNat']; omega
      refine ⟨fun x hx => ?_, ?_⟩
      · rcases List.mem_append.1 hx with hx | hx
        · exact a x hx
        · rw [List.mem_singleton.1 hx, e]
          omega
      · unfold valL at b ⊢
        rw [List.foldl_append, b]
        show u / 10 * 10 + ((UInt8.ofNat (48 + u % 10)).toNat - 48) = u
        rw [e]
        omega
theorem zeros_val (k : Nat) (l : List UInt8) : valL (List.replicate k 48 ++ l) = valL l := by
  unfold valL
  rw [List.foldl_append]
  congr 1
  induction k with
  | zero => rfl
  | succ k ih =>
    rw [List.replicate_succ, List.foldl_cons]
    exact ih
theorem pad_dig (wd u : Nat) : digL (padB wd (nm u)).data.toList ∧ valL (padB wd (nm u)).data.toList = u := by
  have e : (padB wd (nm u)).data.toList = List.replicate (wd - (nm u).size) 48 ++ Lib.decDigits u := by
    unfold padB
    rw [size_append']
    rfl
  rw [e, zeros_val]
  refine ⟨fun b hb => ?_, (dec_dig u).2⟩
  rcases List.mem_append.1 hb with hb | hb
  · rw [(List.mem_replicate.1 hb).2]
    decide
  · exact (dec_dig u).1 b hb

theorem nDigits_9 (u : Nat) (h : u < 1000000000) : Lib.nDigits u ≤ 9 := by
  by_cases h' : u < 10
  · rw [Lib.nDigits_small h']; omega
  · rcases Nat.lt_or_ge (Lib.nDigits u) 10 with h1 | h1
    · omega
    · exfalso
      have key : ∀ (k u : Nat), u < 10 ^ (k + 1) → Lib.nDigits u ≤ k + 1 := by
        intro k
        induction k with
        | zero =>
          intro u h
          rw [Lib.nDigits_small (by simpa using h)]
          exact Nat.le_refl _
        | succ k ih =>
          intro u h
          by_cases h' : u < 10
          · rw [Lib.nDigits_small h']; omega
          · rw [Lib.nDigits_big h']
            have := ih (u / 10) (by rw [Nat.div_lt_iff_lt_mul (by decide)]; rw [Nat.pow_succ] at h; exact h)
            omega
      have := key 8 u h
      omega

/-- what a suffix spells -/
theorem suf_spl (n : Int) (h0 : -999999999 ≤ n) (h1 : n ≤ 2147483647) : (sufB n).size = 10 ∧ splN (sufB n) = some n := by
  by_cases hn : n < 0
  · have e : sufB n = ⟨#[45]⟩ ++ padB 9 (nm (-n).toNat) := by unfold sufB; rw [if_pos hn]
    have hz9 : (padB 9 (nm (-n).toNat)).size = 9 := padB_size 9 _ (by rw [nm_size]; exact nDigits_9 _ (by omega))
    have hz : (sufB n).size = 10 := by rw [e, size_append, hz9]; rfl
    have hl : (sufB n).data.toList = 45 :: (padB 9 (nm (-n).toNat)).data.toList := by rw [e, size_append']; rfl
    obtain ⟨p1, p2⟩ := pad_dig 9 (-n).toNat
    have hd1 : ((sufB n).data.toList.drop 1).take 9 = (padB 9 (nm (-n).toNat)).data.toList := by
      rw [hl, List.drop_one, List.tail_cons, List.take_of_length_le (by rw [← Lib.size_eq, hz9]; exact Nat.le_refl _)]
    have hv : valN (sufB n) 1 9 = (-n).toNat := by rw [valN_list _ _ _ (by omega), hd1, p2]
    have hdg : digN (sufB n) 1 9 = true := digN_list _ _ _ (by omega) (by rw [hd1]; exact p1)
    have h45 : byteAt (sufB n) 0 = 45 := byteAt_of_list _ 0 45 (by rw [hl]; rfl)
    have hnd : digB (sufB n) = false := dig_false _ 0 (by omega) (by omega)
    have hng : negB (sufB n) = true := by
      unfold negB
      rw [h45, hdg, hv]
      simp
      omega
    refine ⟨hz, ?_⟩
    unfold splN
    rw [hnd, if_neg (by decide), hng, if_pos rfl, hv]
    congr 1
    omega
  · have e : sufB n = padB 10 (nm n.toNat) := by unfold sufB; rw [if_neg hn]
    have hz : (sufB n).size = 10 := by rw [e]; exact padB_size 10 _ (by rw [nm_size]; exact nDigits_10 _ (by omega))
    obtain ⟨p1, p2⟩ := pad_dig 10 n.toNat
    have hd0 : ((sufB n).data.toList.drop 0).take (sufB n).size = (padB 10 (nm n.toNat)).data.toList := by
      rw [List.drop_zero, e, List.take_of_length_le (by rw [← Lib.size_eq]; exact Nat.le_refl _)]
    have hv : valB (sufB n) = n.toNat := by unfold valB; rw [valN_list _ _ _ (by omega), hd0, p2]
    have hdg : digB (sufB n) = true := by unfold digB; exact digN_list _ _ _ (by omega) (by rw [hd0]; exact p1)
    refine ⟨hz, ?_⟩
    unfold splN
    rw [hdg, if_pos rfl, hv, if_pos (by omega)]
    congr 1
    omega
/-- a suffix's bytes -/
theorem suf_bytes (n : Int) : ∀ b ∈ (sufB n).data.toList, b.toNat = 45 ∨ (48 ≤ b.toNat ∧ b.toNat ≤ 57) := by
  intro b hb
  unfold sufB at hb
  split at hb
  · rw [size_append'] at hb
    rcases List.mem_append.1 hb with hb | hb
    · left
      rw [List.mem_singleton.1 hb]
      rfl
    · exact .inr ((pad_dig _ _).1 b hb)
  · exact .inr ((pad_dig _ _).1 b hb)

/-! ### A right path with a part's end put behind it -/
theorem byteAt_left (p t : ByteArray) (i : Nat) (h : i < p.size) : byteAt (p ++ t) i = byteAt p i := by
  refine (byteAt_of_list _ _ (UInt8.ofNat (byteAt p i)) ?_).trans ?_
  · rw [size_append', List.getElem?_append_left (by rw [← Lib.size_eq]; exact h)]
    exact byteAt_list p i h
  · have := byteAt_lt p i
    rw [UInt8.toNat_ofNat']
    omega
theorem byteAt_right (p t : ByteArray) (i : Nat) (h : i < t.size) : byteAt (p ++ t) (p.size + i) = byteAt t i := by
  refine (byteAt_of_list _ _ (UInt8.ofNat (byteAt t i)) ?_).trans ?_
  · rw [size_append', List.getElem?_append_right (by rw [← Lib.size_eq]; omega), ← Lib.size_eq, Nat.add_sub_cancel_left]
    exact byteAt_list t i h
  · have := byteAt_lt t i
    rw [UInt8.toNat_ofNat']
    omega

set_option maxRecDepth 10000 in
theorem decode_longer (s t : ByteArray) (i : Nat) (hi : i < s.size) (h : plainAt s i = true) : Utf8.decode (s ++ t) i = Utf8.decode s i := by
  have hz : (s ++ t).size = s.size + t.size := size_append s t
  have e0 := byteAt_left s t i hi
  have e1 : i + 1 < s.size → byteAt (s ++ t) (i + 1) = byteAt s (i + 1) := byteAt_left s t (i + 1)
  have e2 : i + 2 < s.size → byteAt (s ++ t) (i + 2) = byteAt s (i + 2) := byteAt_left s t (i + 2)
  have e3 : i + 3 < s.size → byteAt (s ++ t) (i + 3) = byteAt s (i + 3) := byteAt_left s t (i + 3)
  have hne : ¬ Utf8.decode s i = (65533, 1) := by
    intro h'
    unfold plainAt rn at h
    rw [h'] at h
    exact absurd h (by decide)
  have hD := decode_of s i
  rw [decode_of (s ++ t) i, hz, e0]
  generalize Utf8.decode s i = D at hD hne ⊢
  repeat' split at hD
  all_goals first
    | exact absurd hD hne
    | (subst hD
       first
         | rw [if_pos (by assumption)]
         | (rw [e1 (by omega), if_neg (by assumption), if_pos (by omega), if_pos (by assumption)])
         | (rw [e1 (by omega), e2 (by omega), if_neg (by assumption), if_neg (by omega), if_pos (by omega), if_pos (by assumption)])
         | (rw [e1 (by omega), e2 (by omega), e3 (by omega), if_neg (by assumption), if_neg (by omega), if_neg (by omega), if_pos (by omega), if_pos (by assumption)]))

theorem twl (l t : List UInt8) (ht : ∀ b ∈ t, b ≠ 47) : (l ++ t).takeWhile (· != 47) = l.takeWhile (· != 47) ∨ (l ++ t).takeWhile (· != 47) = l ++ t := by
  induction l with
  | nil =>
    right
    rw [List.nil_append]
    induction t with
    | nil => rfl
    | cons b t ih =>
      have hb : (b != 47) = true := by simpa using ht b (List.mem_cons_self)
      rw [List.takeWhile_cons, hb]
      simp only [if_true]
      rw [ih (fun x hx => ht x (List.mem_cons_of_mem _ hx))]
  | cons b l ih =>
    by_cases hb : b = 47
    · left
      subst hb
      rfl
    · have h : (b != 47) = true := by simpa using hb
      rw [List.cons_append, List.takeWhile_cons, List.takeWhile_cons, h]
      rcases ih with ih | ih
      · left; simp [ih]
      · right; simp [ih]
theorem partL_app (p t : ByteArray) (i : Nat) (hi : i ≤ p.size) (ht : ∀ b ∈ t.data.toList, b ≠ 47) (h45 : (45 : UInt8) ∈ t.data.toList) (h : dotsL (partL p i) = false) : dotsL (partL (p ++ t) i) = false := by
  unfold partL at h ⊢
  rw [size_append', List.drop_append_of_le_length (by rw [← Lib.size_eq]; exact hi)]
  rcases twl (p.data.toList.drop i) t.data.toList ht with e | e
  · rw [e]; exact h
  · rw [e]
    unfold dotsL
    rw [Bool.or_eq_false_iff]
    have hm : (45 : UInt8) ∈ p.data.toList.drop i ++ t.data.toList := List.mem_append.2 (.inr h45)
    constructor
    · rw [beq_eq_false_iff_ne]
      intro e
      rw [e] at hm
      simp at hm
    · rw [beq_eq_false_iff_ne]
      intro e
      rw [e] at hm
      simp at hm

theorem scan_longer (p t : ByteArray) (ht : ∀ b ∈ t.data.toList, b.toNat = 45 ∨ (48 ≤ b.toNat ∧ b.toNat ≤ 57)) (h45 : (45 : UInt8) ∈ t.data.toList) : ∀ f pos, (p ++ t).size ≤ pos + f → (pos < p.size → (checkFrom p f pos).1 = 0) → (checkFrom (p ++ t) f pos).1 = 0 := by
  have hz : (p ++ t).size = p.size + t.size := size_append p t
  have hne : ∀ b ∈ t.data.toList, b ≠ 47 := by
    intro b hb e
    have := ht b hb
    rw [e] at this
    revert this
    decide
  intro f
  induction f with
  | zero => intro pos h _; rw [checkFrom]
  | succ f ih =>
    intro pos h1 h
    rw [checkFrom]
    by_cases hlt : pos < (p ++ t).size
    · rw [if_pos hlt]
      by_cases hp : pos < p.size
      · have h := h hp
        rw [checkFrom, if_pos hp] at h
        rw [byteAt_left p t pos hp]
        by_cases hb : byteAt p pos = 47
        · rw [if_pos hb] at h ⊢
          by_cases hv : 0 < pos ∧ byteAt p (pos - 1) = 47
          · rw [if_pos hv] at h
            simp at h
          · rw [if_neg hv] at h
            rw [if_neg (fun hh => hv ⟨hh.1, by rw [← byteAt_left p t (pos - 1) (by omega)]; exact hh.2⟩)]
            by_cases hd : dotsL (partL p (pos + 1)) = true
            · rw [if_pos hd] at h
              simp at h
            · rw [if_neg hd] at h
              rw [partL_app p t (pos + 1) (by omega) hne h45 (by simpa using hd), if_neg (by decide)]
              exact ih (pos + 1) (by omega) (fun _ => h)
        · rw [if_neg hb] at h ⊢
          by_cases hpl : plainAt p pos = true
          · rw [if_pos hpl] at h
            have hd := decode_longer p t pos hp hpl
            have hw : wid (p ++ t) pos = wid p pos := by unfold wid; rw [hd]
            have hpp : plainAt (p ++ t) pos = plainAt p pos := by unfold plainAt rn; rw [hd]
            have := wid_pos p pos
            rw [hpp, if_pos hpl, hw]
            exact ih _ (by omega) (fun _ => h)
          · rw [if_neg hpl] at h
            simp at h
      · have hr := byteAt_right p t (pos - p.size) (by omega)
        rw [show p.size + (pos - p.size) = pos by omega] at hr
        have hm := ht _ (List.mem_of_getElem? (byteAt_list t (pos - p.size) (by omega)))
        have hbl := byteAt_lt t (pos - p.size)
        rw [UInt8.toNat_ofNat', Nat.mod_eq_of_lt hbl, ← hr] at hm
        have ha := wid_ascii (p ++ t) pos (by omega)
        have hpl : plainAt (p ++ t) pos = true := by
          unfold plainAt
          rw [ha.2, beq_iff_eq]
          unfold kindOf
          repeat' split
          all_goals first | rfl | omega
        rw [if_neg (by omega), if_pos hpl, ha.1]
        exact ih _ (by omega) (fun h' => by omega)
    · rw [if_neg hlt]

theorem ok_dash {p t : ByteArray} (hp : okS p) (ht : ∀ b ∈ t.data.toList, b.toNat = 45 ∨ (48 ≤ b.toNat ∧ b.toNat ≤ 57)) (h45 : (45 : UInt8) ∈ t.data.toList) (hz : (p ++ t).size ≤ 4096) : okS (p ++ t) := by
  obtain ⟨a, b, c, d⟩ := ok_parts hp
  have hs : (p ++ t).size = p.size + t.size := size_append p t
  have ht0 : 0 < t.size := by
    rw [Lib.size_eq]
    exact List.length_pos_of_mem h45
  have hlast : byteAt (p ++ t) ((p ++ t).size - 1) ≠ 47 := by
    rw [show (p ++ t).size - 1 = p.size + (t.size - 1) by omega, byteAt_right p t _ (by omega)]
    have hm := ht _ (List.mem_of_getElem? (byteAt_list t (t.size - 1) (by omega)))
    have hbl := byteAt_lt t (t.size - 1)
    rw [UInt8.toNat_ofNat', Nat.mod_eq_of_lt hbl] at hm
    omega
  refine ok_of (by omega) hz (by rw [byteAt_left p t 0 a]; exact c) (.inr ⟨hlast, ?_⟩)
  refine scan_longer p t ht h45 _ 0 (by omega) (fun _ => ?_)
  have hsc : (checkFrom p p.size 0).1 = 0 := by
    rcases d with d | d
    · have : p = ⟨#[47]⟩ := by
        have h := toList_one p 47
        rw [d, c] at h
        have : (p.toList == [47]) = true := by rw [h]; decide
        rw [Lib.toList_data, beq_iff_eq] at this
        rw [← Lib.mk_data p, this]
      rw [this]
      decide
    · exact d.2
  rw [checkFrom_fuel p _ p.size 0 (by omega) (by omega)]
  exact hsc

theorem app_assoc (a b c : ByteArray) : a ++ b ++ c = a ++ (b ++ c) := ByteArray.append_assoc
theorem dash_one {p : ByteArray} (hp : okS p) (hz : p.size ≤ 4084) : ((checkOf (p ++ ⟨#[45]⟩ ++ ⟨#[49]⟩)).1 == 0) = true := by
  rw [app_assoc]
  have : okS (p ++ (⟨#[45]⟩ ++ ⟨#[49]⟩ : ByteArray)) := ok_dash hp (t := ⟨#[45]⟩ ++ ⟨#[49]⟩) (by
    intro b hb
    rw [size_append'] at hb
    simp only [List.cons_append, List.nil_append, List.mem_cons, List.not_mem_nil, or_false] at hb
    rcases hb with rfl | rfl <;> decide) (by rw [size_append']; simp) (by
      rw [size_append, size_append]
      have e1 : (⟨#[45]⟩ : ByteArray).size = 1 := rfl
      have e2 : (⟨#[49]⟩ : ByteArray).size = 1 := rfl
      omega)
  exact (okB_iff _).2 this
/-- what cannot be numbered is long -/
theorem seq_long {p : ByteArray} (hp : okS p) (n : Int) (h0 : -2147483648 ≤ n) (h1 : n ≤ 2147483647) (h : seqB (p ++ ⟨#[45]⟩) n = false) : 4084 < p.size := by
  rcases Nat.lt_or_ge 4084 p.size with h' | h'
  · exact h'
  · exfalso
    unfold seqB at h
    rw [dash_one hp h', Bool.true_and] at h
    have h := of_decide_eq_false h
    have := suf_size n h0 h1
    rw [size_append, size_append] at h
    have e1 : (⟨#[45]⟩ : ByteArray).size = 1 := rfl
    omega
/-- a numbered path is split into what it was made of -/
theorem seq_split {p : ByteArray} (hp : okS p) (n : Int) (h0 : -999999999 ≤ n) (h1 : n ≤ 2147483647) (h : seqB (p ++ ⟨#[45]⟩) n = true) :
    splT (p ++ ⟨#[45]⟩ ++ sufB n) = p ++ ⟨#[45]⟩ ∧ splV (p ++ ⟨#[45]⟩ ++ sufB n) = n ∧ splB (p ++ ⟨#[45]⟩ ++ sufB n) = true := by
  obtain ⟨s1, s2⟩ := suf_spl n h0 h1
  unfold seqB at h
  rw [Bool.and_eq_true] at h
  obtain ⟨h2, h3⟩ := h
  have h3 := of_decide_eq_true h3
  obtain ⟨a, _, _, _⟩ := ok_parts hp
  have e1 : (⟨#[45]⟩ : ByteArray).size = 1 := rfl
  have hsz : (p ++ ⟨#[45]⟩ ++ sufB n).size = p.size + 1 + 10 := by rw [size_append, size_append, s1, e1]
  have hok : okB (p ++ ⟨#[45]⟩ ++ sufB n) = true := by
    rw [okB_iff, app_assoc]
    refine ok_dash hp ?_ (by rw [size_append']; simp) (by rw [← app_assoc]; exact h3)
    intro b hb
    rw [size_append'] at hb
    rcases List.mem_append.1 hb with hb | hb
    · rw [List.mem_singleton.1 hb]
      decide
    · exact suf_bytes n b hb
  have hH : headS (p ++ ⟨#[45]⟩ ++ sufB n) = p ++ ⟨#[45]⟩ := by
    unfold headS
    rw [hsz, show p.size + 1 + 10 - 10 = (p ++ ⟨#[45]⟩ : ByteArray).size by rw [size_append, e1]; omega]
    rw [Lib.extract_eq, List.drop_zero, Nat.sub_zero, size_append' (p ++ ⟨#[45]⟩), Lib.size_eq, List.take_left]
  have hT : tailS (p ++ ⟨#[45]⟩ ++ sufB n) = sufB n := by
    unfold tailS
    rw [hsz, show p.size + 1 + 10 - 10 = (p ++ ⟨#[45]⟩ : ByteArray).size by rw [size_append, e1]; omega]
    rw [Lib.extract_eq, size_append' (p ++ ⟨#[45]⟩), Lib.size_eq (p ++ ⟨#[45]⟩), List.drop_left, List.take_of_length_le]
    rw [← Lib.size_eq, ← Lib.size_eq, s1, size_append, e1]
    omega
  have hpre : preB (p ++ ⟨#[45]⟩ ++ sufB n) = true := by
    unfold preB
    rw [hok, hH, h2, hsz]
    simp
  have hO : splO (p ++ ⟨#[45]⟩ ++ sufB n) = some n := by
    unfold splO
    rw [hpre, if_pos rfl, hT, s2]
  unfold splT splV splB
  rw [hO, hH]
  exact ⟨rfl, rfl, rfl⟩

/-! ### A path is its parent and its name -/
theorem join_back {y : ByteArray} (h : okS y) (hr : (y.toList == [47]) = false) : joinP (parentS y) (nameS y) = y ∧ joinBad (parentS y) (nameS y) y = false := by
  have h2 := ok_one h hr
  obtain ⟨x, _, z, zz⟩ := ok_parts h
  obtain ⟨l1, l2, l3⟩ := lastFrom_spec y z y.size x
  change lastS y < y.size at l1
  change byteAt y (lastS y) = 47 at l2
  have hend : lastS y ≠ y.size - 1 := by
    intro e
    rcases zz with zz | ⟨zz, _⟩
    · omega
    · rw [e] at l2
      exact zz l2
  have hp := ok_parent h
  have hl : y.data.toList[lastS y]? = some 47 := by rw [byteAt_list y _ l1, l2]; rfl
  have hnl : (nameS y).data.toList = y.data.toList.drop (lastS y + 1) := by
    unfold nameS
    exact tail_data y _
  have hns : (nameS y).size = y.size - (lastS y + 1) := by rw [Lib.size_eq, hnl, List.length_drop, ← Lib.size_eq]
  have hlist : y.data.toList = y.data.toList.take (lastS y) ++ [47] ++ y.data.toList.drop (lastS y + 1) := by
    have e1 : y.data.toList.take (lastS y + 1) = y.data.toList.take (lastS y) ++ [47] := by rw [List.take_add_one, hl]; rfl
    rw [← e1, List.take_append_drop]
  have hslash : slashIn (nameS y) = false := by
    refine slash_no fun j hj => ?_
    have hb : (nameS y).data.toList[j]? = some (UInt8.ofNat (byteAt y (lastS y + 1 + j))) := by
      rw [hnl, List.getElem?_drop]
      exact byteAt_list y _ (by omega)
    have := byteAt_of_list _ _ _ hb
    have hbl := byteAt_lt y (lastS y + 1 + j)
    rw [UInt8.toNat_ofNat', Nat.mod_eq_of_lt hbl] at this
    rw [this]
    exact l3 _ (by show lastS y < _; omega) (by omega)
  have hemp : ((nameS y).toList == []) = false := by
    rw [beq_eq_false_iff_ne, Lib.toList_data]
    intro e
    have := congrArg List.length e
    rw [← Lib.size_eq, hns] at this
    simp at this
    omega
  have hj : joinP (parentS y) (nameS y) = y := by
    by_cases h0 : lastS y = 0
    · have e : parentS y = ⟨#[47]⟩ := by unfold parentS; rw [if_pos h0]
      rw [e, joinP_root (by kernel_rfl)]
      rw [← Lib.mk_data (⟨#[47]⟩ ++ nameS y), ← Lib.mk_data y, size_append', hnl]
      rw [h0] at hlist ⊢
      congr 2
      rw [hlist]
      simp
    · have e : parentS y = y.extract 0 (lastS y) := by unfold parentS; rw [if_neg h0]
      have hroot : ((parentS y).toList == [47]) = false := by
        rw [toList_one]
        apply decide_eq_false
        rintro ⟨h5, _⟩
        rw [e, size_extract0 y _ (by omega)] at h5
        have := no_double h 1 (by decide) (by omega) (by rw [← h5]; exact l2)
        exact this z
      rw [joinP_else ((okB_iff _).2 hp.1) hroot, e]
      rw [← Lib.mk_data (y.extract 0 (lastS y) ++ ⟨#[47]⟩ ++ nameS y), ← Lib.mk_data y, size_append', size_append', hnl]
      congr 2
      rw [Lib.extract_data, List.drop_zero, Nat.sub_zero]
      exact hlist.symm
  refine ⟨hj, ?_⟩
  unfold joinBad
  rw [(okB_iff _).2 hp.1, hslash, (okB_iff _).2 h, hemp]
  rfl
theorem join_chain {y : ByteArray} (h : okS y) (hr : (y.toList == [47]) = false) : joinT (parentS y) (nameS y) (joinP (parentS y) (nameS y)) = y ∧ joinE (parentS y) (nameS y) (joinP (parentS y) (nameS y)) = 0 := by
  obtain ⟨a, b⟩ := join_back h hr
  rw [a]
  unfold joinT joinE
  rw [b]
  exact ⟨rfl, rfl⟩

theorem parent_ord {p : ByteArray} (h : okS p) (hr : (p.toList == [47]) = false) : ordB (parentS p) p = -1 ∧ ordB p (parentS p) = 1 ∧ underB (parentS p) p = true ∧ underB p (parentS p) = false := by
  have h2 := ok_one h hr
  have hp := ok_parent h
  have hlt := hp.2 (by omega)
  have hne : (p.toList == (parentS p).toList) = false := by
    rw [beq_eq_false_iff_ne, Lib.toList_data, Lib.toList_data]
    intro e
    have := congrArg List.length e
    rw [← Lib.size_eq, ← Lib.size_eq] at this
    omega
  have hu : underB (parentS p) p = true := by
    have := und_parent hp.1 h hne
    unfold underB
    rw [(okB_iff _).2 hp.1, (okB_iff p).2 h, ← this]
    unfold undB
    simp
  obtain ⟨_, _, hpre⟩ := under_prefix hu
  have hc := cmp_prefix _ _ hpre
  have hz := cmp_zero (parentS p).data.toList p.data.toList
  have hrg := cmp_range (parentS p).data.toList p.data.toList
  have hng := cmp_neg (parentS p).data.toList p.data.toList
  have hne' : (parentS p).data.toList ≠ p.data.toList := fun e => by
    rw [beq_eq_false_iff_ne, Lib.toList_data, Lib.toList_data] at hne
    exact hne e.symm
  have hn0 : Lib.compareBytes (parentS p).data.toList p.data.toList ≠ 0 := fun e => hne' (hz.1 e)
  refine ⟨by unfold ordB; omega, by unfold ordB; omega, hu, ?_⟩
  rw [under_eq hu, beq_eq_false_iff_ne, Lib.toList_data, Lib.toList_data]
  exact hne'
end Go.Proofs.YtkhnchahoidbaaaDoor
