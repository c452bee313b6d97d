/- What values should be read as: the walk. -/
import Derived.Test.YtbegingiedbldaaDoorJb2
import Derived.Test.YtbegingiedbldaaDoorJb4
import Derived.Test.YtbegingiedbldaaDoorJq1
import Derived.Deep.RegionLaw
import Derived.Laws.BitsAllLaws
import Derived.Laws.BitsLemmas
namespace Go.Proofs.YtbegingiedbldaaDoor
open Go.RowKit

theorem and255 (z : Int) : bits .and .i64 z 255 = z % 256 := by
  show IntKind.i64.wrap ((BitVec.ofInt 64 z &&& BitVec.ofInt 64 255).toNat : Int) = _
  have h : (BitVec.ofInt 64 z &&& BitVec.ofInt 64 255).toNat = (z % 256).toNat := by
    rw [BitVec.toNat_and, BitVec.toNat_ofInt, show (BitVec.ofInt 64 255).toNat = 2 ^ 8 - 1 by decide, Nat.and_two_pow_sub_one_eq_mod]
    omega
  rw [h, IntKind.wrap_i64]
  omega

/-- what was read, at block b: numbers and texts, rows of its own -/
structure GotSt (w : World) (base b : Nat) (vN vT : Value) (N : List Int) (T : List ByteArray) : Prop where
  blk : Blk w b 28 #[vN, vT]
  nums : w.ownsRow base 2 1 vN N.length (icells N)
  txts : w.ownsRow base 9 1 vT T.length (scells T)

section
variable {w w0 w3 : World} {base b : Nat} {vN vT v3 : Value} {N : List Int} {T : List ByteArray}
theorem GotSt.later (h : GotSt w base b vN vT N T) (hb : Below w.heap.size w w0) : GotSt w0 base b vN vT N T :=
  ⟨h.blk.below hb h.blk.lt, own_kp h.nums (Kp.of_below (X := []) hb) (fun _ h => by cases h), own_kp h.txts (Kp.of_below (X := []) hb) (fun _ h => by cases h)⟩
theorem GotSt.cells (h : GotSt w base b vN vT N T) : w.cell? ⟨b, 0, none⟩ = some vN ∧ w.cell? ⟨b, 1, none⟩ = some vT ∧ w.frozen? ⟨b, 0, none⟩ = false ∧ w.frozen? ⟨b, 1, none⟩ = false := by
  refine ⟨?_, ?_, h.blk.frozen 0, h.blk.frozen 1⟩
  · rw [h.blk.cell 0]; rfl
  · rw [h.blk.cell 1]; rfl
theorem GotSt.gN (h : GotSt w base b vN vT N T) (hg : w.grownBy w3 vN.ownBlock) : Blk w3 b 28 #[vN, vT] := h.blk.grown hg (fun e => own_blk_ne h.nums h.blk (by decide) e.symm)
theorem GotSt.gT (h : GotSt w base b vN vT N T) (hg : w.grownBy w3 vT.ownBlock) : Blk w3 b 28 #[vN, vT] := h.blk.grown hg (fun e => own_blk_ne h.txts h.blk (by decide) e.symm)
theorem GotSt.num {x : Int} (h : GotSt w base b vN vT N T) (hg : w.grownBy w3 vN.ownBlock) (ho : w3.ownsRow base 2 1 v3 (N.length + 1) (icells N ++ icells [x])) : GotSt (w3.setCell ⟨b, 0, none⟩ v3) base b v3 vT (N ++ [x]) T := by
  have hb := h.gN hg
  have ho' : w3.ownsRow base 2 1 v3 (N ++ [x]).length (icells (N ++ [x])) := by rw [icells_append, List.length_append]; exact ho
  have ht : w3.ownsRow base 9 1 vT T.length (scells T) := own_kp h.txts (Kp.of_grown hg) (fun x hx e => own_own_ne h.nums h.txts (by decide) x (by simpa using hx) e)
  exact ⟨hb.set_ 0 _, own_set ho' hb (by decide) 0 _, own_set ht hb (by decide) 0 _⟩
theorem GotSt.txt {x : ByteArray} (h : GotSt w base b vN vT N T) (hg : w.grownBy w3 vT.ownBlock) (ho : w3.ownsRow base 9 1 v3 (T.length + 1) (scells T ++ scells [x])) : GotSt (w3.setCell ⟨b, 1, none⟩ v3) base b vN v3 N (T ++ [x]) := by
  have hb := h.gT hg
  have ho' : w3.ownsRow base 9 1 v3 (T ++ [x]).length (scells (T ++ [x])) := by rw [scells_append, List.length_append]; exact ho
  have ht : w3.ownsRow base 2 1 vN N.length (icells N) := own_kp h.nums (Kp.of_grown hg) (fun x hx e => own_own_ne h.nums h.txts (by decide) x e (by simpa using hx))
  exact ⟨hb.set_ 1 _, own_set ht hb (by decide) 1 _, own_set ho' hb (by decide) 1 _⟩
theorem GotSt.below {B : Nat} {W : World} {i : Nat} {u : Value} {row : Option Nat} (hb : Below B W w) (hB : B ≤ w.heap.size) (hg : w.grownBy w3 row) (hr : ∀ x, row = some x → B ≤ x) (hbb : B ≤ b) : Below B W (w3.setCell ⟨b, i, none⟩ u) :=
  (hb.grown hg hB hr).setCell hbb _
end

theorem bs_text (s : ByteArray) : bs s.data.toList = s := by cases s; simp [bs]

/-- behind k values -/
def PlMid (S : List Vl) (w : World) (k : Nat) (vN vT : Value) (wr : World) : Prop :=
  (∀ v ∈ S.take k, ¬ plBad v) ∧ GotSt wr w.heap.size (w.heap.size + 1) vN vT (plG (S.take k)).1 ((plG (S.take k)).2.map bs) ∧ Blk wr w.heap.size 28 #[.slice none 0 0, .slice none 0 0] ∧ Below w.heap.size w wr
/-- what it comes to -/
def PlEnd (S : List Vl) (w : World) (e : Ending) (w' : World) : Prop :=
  ((∀ v ∈ S, ¬ plBad v) ∧ ∃ vN vT, e = .returned (.tuple #[.agg #[vN, vT], .bool true]) ∧ w'.ownsRow w.heap.size 2 1 vN (plG S).1.length (icells (plG S).1) ∧ w'.ownsRow w.heap.size 9 1 vT (plG S).2.length (scells ((plG S).2.map bs)) ∧ Below w.heap.size w w')
  ∨ ((∃ v ∈ S, plBad v) ∧ ∃ A n c A' n' c', e = .returned (.tuple #[.agg #[.slice A n c, .slice A' n' c'], .bool false]) ∧ Below w.heap.size w w')
theorem PlEnd.no {S : List Vl} {w w' w1 : World} {base b : Nat} {vN vT : Value} {N : List Int} {T : List ByteArray} (h : ∃ v ∈ S, plBad v) (hg : GotSt w1 base b vN vT N T) (hb : Below w.heap.size w w') : PlEnd S w (.returned (.tuple #[.agg #[vN, vT], .bool false])) w' := by
  obtain ⟨A, c, rfl⟩ := slice_form hg.nums
  obtain ⟨A', c', rfl⟩ := slice_form hg.txts
  exact .inr ⟨h, _, _, _, _, _, _, rfl, hb⟩
theorem plG_snoc (S : List Vl) (k : Nat) (s : Vl) (hk : S[k]? = some s) : plG (S.take (k + 1)) = ((plG (S.take k)).1 ++ (plV s).1, (plG (S.take k)).2 ++ (plV s).2) := by
  unfold plG
  rw [flat_take _ S k s hk, flat_take _ S k s hk]
theorem plG_part (S : List Vl) (k : Nat) (s : Vl) (hk : S[k]? = some s) : (plG (S.take k)).1.length + (plV s).1.length ≤ (plG S).1.length ∧ (plG (S.take k)).2.length + (plV s).2.length ≤ (plG S).2.length :=
  ⟨flat_part (fun v => (plV v).1) S k s hk, flat_part (fun v => (plV v).2) S k s hk⟩
theorem PlMid.step {S : List Vl} {w wr wr' : World} {k : Nat} {vN vT vN' vT' : Value} {s : Vl} {N : List Int} {T : List ByteArray} (h : PlMid S w k vN vT wr) (hs : S[k]? = some s) (hn : ¬ plBad s) (hN : (plG (S.take k)).1 ++ (plV s).1 = N) (hT : (plG (S.take k)).2.map bs ++ (plV s).2.map bs = T)
    (hg : GotSt wr' w.heap.size (w.heap.size + 1) vN' vT' N T) (hr : Blk wr' w.heap.size 28 #[.slice none 0 0, .slice none 0 0]) (hb : Below w.heap.size w wr') : PlMid S w (k + 1) vN' vT' wr' := by
  refine ⟨fun v hv => ?_, ?_, hr, hb⟩
  · rw [List.take_add_one, hs] at hv
    rcases List.mem_append.1 hv with hv | hv
    · exact h.1 v hv
    · obtain rfl : v = s := by simpa using hv
      exact hn
  · rw [plG_snoc S k s hs, List.map_append, hN, hT]
    exact hg


set_option maxRecDepth 100000 in
set_option maxHeartbeats 2000000 in
theorem plain_any (A : Option Addr) (n c B : Nat) (S : List Vl) (w : World) (hS : Reads w B 4 A n (S.flatMap vlCells)) (hL : ∀ x ∈ S, Reads w B 1 x.A x.n (scells x.L) ∧ VlFit x) (hB : B ≤ w.heap.size) (hn : n ≤ 1099511627776) (hN : (plG S).1.length ≤ 1099511627776) (hT : (plG S).2.length ≤ 1099511627776) :
    Calls Tryd.prog 46 #[.slice A n c] w (PlEnd S w) := by
  have hSl : S.length = n := by
    have h1 := hS.1
    have : ∀ S : List Vl, (S.flatMap vlCells).length = S.length * 4 := by
      intro S
      induction S with
      | nil => rfl
      | cons a S ih => rw [List.flatMap_cons, List.length_append, ih]; simp [vlCells]; omega
    rw [this] at h1
    omega
  subst hSl
  obtain ⟨i0, hi0, hz0, hz1, hz2⟩ := info_parts i64_info
  obtain ⟨j0, hj0, hy0, hy1, hy2⟩ := info_parts str_info
  obtain ⟨w0, hw0⟩ : ∃ w0, (w.alloc (.cells #[.slice none 0 0, .slice none 0 0] 28)).alloc (.cells #[.slice none 0 0, .slice none 0 0] 28) = w0 := ⟨_, rfl⟩
  have HM0 : Hid (PlMid S w 0 (.slice none 0 0) (.slice none 0 0) w0) := by
    refine ⟨fun v hv => (by simp at hv), ⟨by rw [← hw0]; exact Blk.new' (by simp), World.ownsRow_nil _ _ _ _, World.ownsRow_nil _ _ _ _⟩, by rw [← hw0]; exact (Blk.new' rfl).alloc _, by rw [← hw0]; exact ((Below.refl _ _).alloc (Nat.le_refl _) _).alloc (by simp) _⟩
  have HS := Lib.hid hS
  have HL := Lib.hid hL
  have HNL := Lib.hid hN
  have HTL := Lib.hid hT
  clear hS hL hN hT
  go_enter Tryd.func46, Tryd.ntmps46
  go_wp2
  go_loopw [5] (fun i wr => ∃ (k : Nat) (vN vT : Value), k ≤ S.length ∧ i = .int .i64 k ∧ PlMid S w k vN vT wr) (fun i _ => S.length - (intOf i).toNat)
  case atStart => exact ⟨0, _, _, Nat.zero_le _, rfl, HM0.out⟩
  case round =>
    clear HM0
    obtain ⟨wo, rfl⟩ : ∃ wo : World, wo = wr := ⟨_, rfl⟩
    obtain ⟨k, vN, vT, hk, rfl, hM⟩ := hrel
    have HM := Lib.hid hM
    have HBW := Lib.hid hM.2.2.2
    have hzo : w.heap.size + 2 ≤ wo.heap.size := by have := hM.2.1.blk.lt; omega
    clear hM
    by_cases hlt : k < S.length
    · obtain ⟨s, hs⟩ : ∃ s, S[k]? = some s := ⟨_, List.getElem?_eq_getElem hlt⟩
      obtain ⟨bS, off, rfl, hbS, hcs⟩ := rows_at (f := vlCells) (q := 4) (by decide) (fun _ => rfl) (HS.out.below (HBW.out.mono hB)) k s hs
      have e0 := hcs 0 _ rfl
      have e1 := hcs 1 _ rfl
      have e2 := hcs 2 _ rfl
      have e3 := hcs 3 _ rfl
      simp only [Nat.add_zero] at e0
      have HSK := Lib.hid hs
      have HSM := Lib.hid (List.mem_of_getElem? hs)
      obtain ⟨wa, hwa⟩ : ∃ wa, wo.alloc (.cells #[.int .i64 s.k, .int .i64 s.z, .string s.t, .slice s.A s.n s.c] 68) = wa := ⟨_, rfl⟩
      have hba : Below wo.heap.size wo wa := by rw [← hwa]; exact (Below.refl _ _).alloc (Nat.le_refl _) _
      have hza : wa.heap.size = wo.heap.size + 1 := by rw [← hwa]; simp
      have hza' : w.heap.size + 3 ≤ wa.heap.size := by omega
      have bA : Blk wa wo.heap.size 68 #[.int .i64 s.k, .int .i64 s.z, .string s.t, .slice s.A s.n s.c] := by rw [← hwa]; exact Blk.new _ _ _
      have a0 : wa.cell? ⟨wo.heap.size, 0, none⟩ = some (.int .i64 s.k) := by rw [bA.cell 0]; rfl
      have a1 : wa.cell? ⟨wo.heap.size, 1, none⟩ = some (.int .i64 s.z) := by rw [bA.cell 1]; rfl
      have a2 : wa.cell? ⟨wo.heap.size, 2, none⟩ = some (.string s.t) := by rw [bA.cell 2]; rfl
      have a3 : wa.cell? ⟨wo.heap.size, 3, none⟩ = some (.slice s.A s.n s.c) := by rw [bA.cell 3]; rfl
      have HbA := Lib.hid bA
      obtain ⟨N, hN⟩ : ∃ N, N = (plG (S.take k)).1 := ⟨_, rfl⟩
      obtain ⟨T, hT⟩ : ∃ T, T = (plG (S.take k)).2.map bs := ⟨_, rfl⟩
      have hg := HM.out.2.1.later hba
      rw [← hN, ← hT] at hg
      obtain ⟨g0, g1, gf0, gf1⟩ := hg.cells
      have HG := Lib.hid hg
      have HRB := Lib.hid (HM.out.2.2.1.below hba HM.out.2.2.1.lt)
      have HBWA : Hid (Below w.heap.size w wa) := HBW.out.trans (hba.mono HBW.out.size)
      have HZWA : Hid (w.heap.size ≤ wa.heap.size) := by unfold Hid; omega
      have HBA := Lib.hid hba
      have HR := Lib.hid ((HL.out s HSM.out).1.below (HBWA.out.mono hB))
      have HF := Lib.hid (HL.out s HSM.out).2
      have hpt := plG_part S k s hs
      have hNl : N.length + (plV s).1.length ≤ 1099511627776 := by rw [hN]; have := HNL.out; omega
      have hTl : T.length + (plV s).2.length ≤ 1099511627776 := by rw [hT, List.length_map]; have := HTL.out; omega
      have HNE := Lib.hid hN
      have HTE := Lib.hid hT
      clear hs hcs bA hba hg hN hT hpt hza
      by_cases k1 : s.k = 1
      · as_aux_lemma =>
          have n1 : (s.k == 1) = true := by simp [k1]
          have HNB : Hid (¬ plBad s) := fun h => by rcases h with ⟨h, _⟩ | ⟨h, _⟩ <;> omega
          by_cases hz : s.z = 0
          · have HPV : Hid (plV s = ([0], [])) := by unfold Hid; simp [plV, k1, hz]
            rw [HPV.out] at hNl hTl
            simp only [List.length_cons, List.length_nil] at hNl hTl
            have nz : (s.z != 0) = false := by simp [hz]
            clear k1 hz
            go_wp2_with (at_builtin; refine wpList_append_any _ rfl (.tmp 31) (.tmp 32) _ rfl w.heap.size 2 i0 _ 1 8 Tryd.underlying25 hi0 hz0 hz1 hz2 rfl (by decide) vN N.length (icells N) rfl (World.ownsRow.alloc HG.out.nums _) (wa.heap.size + 1) (some ⟨wa.heap.size, 0, none⟩) 1 1 (icells [0]) rfl (reads_lit wa 2 [_]) (icells_one _) (by simp only [maxLen]; omega) (by omega) (by have := HZWA.out; simp; omega) ?_; intro v3 w3 ho3 hg3 hat3; have hgg : GotSt (wa.alloc (.cells #[.int .i64 (0)] 2)) w.heap.size (w.heap.size + 1) vN vT N T := HG.out.later ((Below.refl _ _).alloc (Nat.le_refl _) _); have hb3 := hgg.gN hg3; have q0 : w3.cell? ⟨w.heap.size + 1, 0, none⟩ = some vN := (by rw [hb3.cell 0]; rfl); have qf := hb3.frozen 0; have HG3 := Lib.hid (hgg.num hg3 ho3); have HR3 : Hid (Blk (w3.setCell ⟨w.heap.size + 1, 0, none⟩ v3) w.heap.size 28 #[.slice none 0 0, .slice none 0 0]) := ((HRB.out.alloc _).grown hg3 (fun e => own_blk_ne HG.out.nums HRB.out (by decide) e.symm)).far (by simp) _; have HB3 : Hid (Below w.heap.size w (w3.setCell ⟨w.heap.size + 1, 0, none⟩ v3)) := GotSt.below (HBWA.out.alloc HZWA.out _) (by have := HZWA.out; simp; omega) hg3 (fun x e => (HG.out.nums.lt x e).1) (Nat.le_succ _); obtain ⟨A3, c3, rfl⟩ := slice_form ho3; clear hgg hb3 ho3 hg3 hat3)
            go_roundw
            case rel => exact ⟨k + 1, _, _, by omega, by go_num, HM.out.step HSK.out HNB.out (by rw [HPV.out, ← HNE.out] <;> simp) (by rw [HPV.out, ← HTE.out]; simp [bs_text]) HG3.out HR3.out HB3.out⟩
            case measure => simp [intOf]; omega
          · have HPV : Hid (plV s = ([1], [])) := by unfold Hid; simp [plV, k1, hz]
            rw [HPV.out] at hNl hTl
            simp only [List.length_cons, List.length_nil] at hNl hTl
            have nz : (s.z != 0) = true := by simp [hz]
            clear k1 hz
            go_wp2_with (at_builtin; refine wpList_append_any _ rfl (.tmp 26) (.tmp 27) _ rfl w.heap.size 2 i0 _ 1 8 Tryd.underlying25 hi0 hz0 hz1 hz2 rfl (by decide) vN N.length (icells N) rfl (World.ownsRow.alloc HG.out.nums _) (wa.heap.size + 1) (some ⟨wa.heap.size, 0, none⟩) 1 1 (icells [1]) rfl (reads_lit wa 2 [_]) (icells_one _) (by simp only [maxLen]; omega) (by omega) (by have := HZWA.out; simp; omega) ?_; intro v3 w3 ho3 hg3 hat3; have hgg : GotSt (wa.alloc (.cells #[.int .i64 (1)] 2)) w.heap.size (w.heap.size + 1) vN vT N T := HG.out.later ((Below.refl _ _).alloc (Nat.le_refl _) _); have hb3 := hgg.gN hg3; have q0 : w3.cell? ⟨w.heap.size + 1, 0, none⟩ = some vN := (by rw [hb3.cell 0]; rfl); have qf := hb3.frozen 0; have HG3 := Lib.hid (hgg.num hg3 ho3); have HR3 : Hid (Blk (w3.setCell ⟨w.heap.size + 1, 0, none⟩ v3) w.heap.size 28 #[.slice none 0 0, .slice none 0 0]) := ((HRB.out.alloc _).grown hg3 (fun e => own_blk_ne HG.out.nums HRB.out (by decide) e.symm)).far (by simp) _; have HB3 : Hid (Below w.heap.size w (w3.setCell ⟨w.heap.size + 1, 0, none⟩ v3)) := GotSt.below (HBWA.out.alloc HZWA.out _) (by have := HZWA.out; simp; omega) hg3 (fun x e => (HG.out.nums.lt x e).1) (Nat.le_succ _); obtain ⟨A3, c3, rfl⟩ := slice_form ho3; clear hgg hb3 ho3 hg3 hat3)
            go_roundw
            case rel => exact ⟨k + 1, _, _, by omega, by go_num, HM.out.step HSK.out HNB.out (by rw [HPV.out, ← HNE.out] <;> simp) (by rw [HPV.out, ← HTE.out]; simp [bs_text]) HG3.out HR3.out HB3.out⟩
            case measure => simp [intOf]; omega
      ·
        by_cases k2 : s.k = 2
        · as_aux_lemma =>
            have n1 : (s.k == 1) = false := by simp [k1]
            have n2 : (s.k == 2) = true := by simp [k2]
            have HNB : Hid (¬ plBad s) := fun h => by rcases h with ⟨h, _⟩ | ⟨h, _⟩ <;> omega
            have HPV : Hid (plV s = ([s.z % 256], [])) := by unfold Hid; simp [plV, k2]
            rw [HPV.out] at hNl hTl
            simp only [List.length_cons, List.length_nil] at hNl hTl
            have hand := and255 s.z
            clear k1 k2
            go_wp2_with (at_builtin; refine wpList_append_any _ rfl (.tmp 38) (.tmp 42) _ rfl w.heap.size 2 i0 _ 1 8 Tryd.underlying25 hi0 hz0 hz1 hz2 rfl (by decide) vN N.length (icells N) rfl (World.ownsRow.alloc HG.out.nums _) (wa.heap.size + 1) (some ⟨wa.heap.size, 0, none⟩) 1 1 (icells [s.z % 256]) rfl (reads_lit wa 2 [_]) (icells_one _) (by simp only [maxLen]; omega) (by omega) (by have := HZWA.out; simp; omega) ?_; intro v3 w3 ho3 hg3 hat3; have hgg : GotSt (wa.alloc (.cells #[.int .i64 (s.z % 256)] 2)) w.heap.size (w.heap.size + 1) vN vT N T := HG.out.later ((Below.refl _ _).alloc (Nat.le_refl _) _); have hb3 := hgg.gN hg3; have q0 : w3.cell? ⟨w.heap.size + 1, 0, none⟩ = some vN := (by rw [hb3.cell 0]; rfl); have qf := hb3.frozen 0; have HG3 := Lib.hid (hgg.num hg3 ho3); have HR3 : Hid (Blk (w3.setCell ⟨w.heap.size + 1, 0, none⟩ v3) w.heap.size 28 #[.slice none 0 0, .slice none 0 0]) := ((HRB.out.alloc _).grown hg3 (fun e => own_blk_ne HG.out.nums HRB.out (by decide) e.symm)).far (by simp) _; have HB3 : Hid (Below w.heap.size w (w3.setCell ⟨w.heap.size + 1, 0, none⟩ v3)) := GotSt.below (HBWA.out.alloc HZWA.out _) (by have := HZWA.out; simp; omega) hg3 (fun x e => (HG.out.nums.lt x e).1) (Nat.le_succ _); obtain ⟨A3, c3, rfl⟩ := slice_form ho3; clear hgg hb3 ho3 hg3 hat3)
            go_roundw
            case rel => exact ⟨k + 1, _, _, by omega, by go_num, HM.out.step HSK.out HNB.out (by rw [HPV.out, ← HNE.out] <;> simp) (by rw [HPV.out, ← HTE.out]; simp [bs_text]) HG3.out HR3.out HB3.out⟩
            case measure => simp [intOf]; omega
        ·
          by_cases k3 : s.k = 3
          · as_aux_lemma =>
              have n1 : (s.k == 1) = false := by simp [k1]
              have n2 : (s.k == 2) = false := by simp [k2]
              have n3 : (s.k == 3) = true := by simp [k3]
              have HNB : Hid (¬ plBad s) := fun h => by rcases h with ⟨h, _⟩ | ⟨h, _⟩ <;> omega
              have HPV : Hid (plV s = ([wrap32 s.z], [])) := by unfold Hid; simp [plV, k3]
              rw [HPV.out] at hNl hTl
              simp only [List.length_cons, List.length_nil] at hNl hTl
              have hwb := wrap32_bd s.z
              clear k1 k2 k3
              go_wp2_with (at_builtin; refine wpList_append_any _ rfl (.tmp 49) (.tmp 54) _ rfl w.heap.size 2 i0 _ 1 8 Tryd.underlying25 hi0 hz0 hz1 hz2 rfl (by decide) vN N.length (icells N) rfl (World.ownsRow.alloc HG.out.nums _) (wa.heap.size + 1) (some ⟨wa.heap.size, 0, none⟩) 1 1 (icells [wrap32 s.z]) rfl (reads_lit wa 2 [_]) (icells_one _) (by simp only [maxLen]; omega) (by omega) (by have := HZWA.out; simp; omega) ?_; intro v3 w3 ho3 hg3 hat3; have hgg : GotSt (wa.alloc (.cells #[.int .i64 (wrap32 s.z)] 2)) w.heap.size (w.heap.size + 1) vN vT N T := HG.out.later ((Below.refl _ _).alloc (Nat.le_refl _) _); have hb3 := hgg.gN hg3; have q0 : w3.cell? ⟨w.heap.size + 1, 0, none⟩ = some vN := (by rw [hb3.cell 0]; rfl); have qf := hb3.frozen 0; have HG3 := Lib.hid (hgg.num hg3 ho3); have HR3 : Hid (Blk (w3.setCell ⟨w.heap.size + 1, 0, none⟩ v3) w.heap.size 28 #[.slice none 0 0, .slice none 0 0]) := ((HRB.out.alloc _).grown hg3 (fun e => own_blk_ne HG.out.nums HRB.out (by decide) e.symm)).far (by simp) _; have HB3 : Hid (Below w.heap.size w (w3.setCell ⟨w.heap.size + 1, 0, none⟩ v3)) := GotSt.below (HBWA.out.alloc HZWA.out _) (by have := HZWA.out; simp; omega) hg3 (fun x e => (HG.out.nums.lt x e).1) (Nat.le_succ _); obtain ⟨A3, c3, rfl⟩ := slice_form ho3; clear hgg hb3 ho3 hg3 hat3)
              go_roundw
              case rel => exact ⟨k + 1, _, _, by omega, by go_num, HM.out.step HSK.out HNB.out (by rw [HPV.out, ← HNE.out] <;> simp) (by rw [HPV.out, ← HTE.out]; simp [bs_text]) HG3.out HR3.out HB3.out⟩
              case measure => simp [intOf]; omega
          ·
            by_cases k4 : s.k = 4
            · as_aux_lemma =>
                have n1 : (s.k == 1) = false := by simp [k1]
                have n2 : (s.k == 2) = false := by simp [k2]
                have n3 : (s.k == 3) = false := by simp [k3]
                have n4 : (s.k == 4) = true := by simp [k4]
                have HNB : Hid (¬ plBad s) := fun h => by rcases h with ⟨h, _⟩ | ⟨h, _⟩ <;> omega
                have HPV : Hid (plV s = ([s.z], [])) := by unfold Hid; simp [plV, k4]
                rw [HPV.out] at hNl hTl
                simp only [List.length_cons, List.length_nil] at hNl hTl
                clear k1 k2 k3 k4
                go_wp2_with (at_builtin; refine wpList_append_any _ rfl (.tmp 60) (.tmp 63) _ rfl w.heap.size 2 i0 _ 1 8 Tryd.underlying25 hi0 hz0 hz1 hz2 rfl (by decide) vN N.length (icells N) rfl (World.ownsRow.alloc HG.out.nums _) (wa.heap.size + 1) (some ⟨wa.heap.size, 0, none⟩) 1 1 (icells [s.z]) rfl (reads_lit wa 2 [_]) (icells_one _) (by simp only [maxLen]; omega) (by omega) (by have := HZWA.out; simp; omega) ?_; intro v3 w3 ho3 hg3 hat3; have hgg : GotSt (wa.alloc (.cells #[.int .i64 (s.z)] 2)) w.heap.size (w.heap.size + 1) vN vT N T := HG.out.later ((Below.refl _ _).alloc (Nat.le_refl _) _); have hb3 := hgg.gN hg3; have q0 : w3.cell? ⟨w.heap.size + 1, 0, none⟩ = some vN := (by rw [hb3.cell 0]; rfl); have qf := hb3.frozen 0; have HG3 := Lib.hid (hgg.num hg3 ho3); have HR3 : Hid (Blk (w3.setCell ⟨w.heap.size + 1, 0, none⟩ v3) w.heap.size 28 #[.slice none 0 0, .slice none 0 0]) := ((HRB.out.alloc _).grown hg3 (fun e => own_blk_ne HG.out.nums HRB.out (by decide) e.symm)).far (by simp) _; have HB3 : Hid (Below w.heap.size w (w3.setCell ⟨w.heap.size + 1, 0, none⟩ v3)) := GotSt.below (HBWA.out.alloc HZWA.out _) (by have := HZWA.out; simp; omega) hg3 (fun x e => (HG.out.nums.lt x e).1) (Nat.le_succ _); obtain ⟨A3, c3, rfl⟩ := slice_form ho3; clear hgg hb3 ho3 hg3 hat3)
                go_roundw
                case rel => exact ⟨k + 1, _, _, by omega, by go_num, HM.out.step HSK.out HNB.out (by rw [HPV.out, ← HNE.out] <;> simp) (by rw [HPV.out, ← HTE.out]; simp [bs_text]) HG3.out HR3.out HB3.out⟩
                case measure => simp [intOf]; omega
            ·
              by_cases k5 : s.k = 5
              · as_aux_lemma =>
                  have n1 : (s.k == 1) = false := by simp [k1]
                  have n2 : (s.k == 2) = false := by simp [k2]
                  have n3 : (s.k == 3) = false := by simp [k3]
                  have n4 : (s.k == 4) = false := by simp [k4]
                  have n5 : (s.k == 5) = true := by simp [k5]
                  have HNB : Hid (¬ plBad s) := fun h => by rcases h with ⟨h, _⟩ | ⟨h, _⟩ <;> omega
                  have HPV : Hid (plV s = ([], [s.t.data.toList])) := by unfold Hid; simp [plV, k5]
                  rw [HPV.out] at hNl hTl
                  simp only [List.length_cons, List.length_nil] at hNl hTl
                  clear k1 k2 k3 k4 k5
                  go_wp2_with (at_builtin; refine wpList_append_any _ rfl (.tmp 69) (.tmp 72) _ rfl w.heap.size 9 j0 _ 1 16 Tryd.underlying26 hj0 hy0 hy1 hy2 rfl (by decide) vT T.length (scells T) rfl (World.ownsRow.alloc HG.out.txts _) (wa.heap.size + 1) (some ⟨wa.heap.size, 0, none⟩) 1 1 (scells [s.t]) rfl (reads_lit wa 9 [_]) (scells_one _) (by simp only [maxLen]; omega) (by omega) (by have := HZWA.out; simp; omega) ?_; intro v3 w3 ho3 hg3 hat3; have hgg : GotSt (wa.alloc (.cells #[.string (s.t)] 9)) w.heap.size (w.heap.size + 1) vN vT N T := HG.out.later ((Below.refl _ _).alloc (Nat.le_refl _) _); have hb3 := hgg.gT hg3; have q0 : w3.cell? ⟨w.heap.size + 1, 1, none⟩ = some vT := (by rw [hb3.cell 1]; rfl); have qf := hb3.frozen 1; have HG3 := Lib.hid (hgg.txt hg3 ho3); have HR3 : Hid (Blk (w3.setCell ⟨w.heap.size + 1, 1, none⟩ v3) w.heap.size 28 #[.slice none 0 0, .slice none 0 0]) := ((HRB.out.alloc _).grown hg3 (fun e => own_blk_ne HG.out.txts HRB.out (by decide) e.symm)).far (by simp) _; have HB3 : Hid (Below w.heap.size w (w3.setCell ⟨w.heap.size + 1, 1, none⟩ v3)) := GotSt.below (HBWA.out.alloc HZWA.out _) (by have := HZWA.out; simp; omega) hg3 (fun x e => (HG.out.txts.lt x e).1) (Nat.le_succ _); obtain ⟨A3, c3, rfl⟩ := slice_form ho3; clear hgg hb3 ho3 hg3 hat3)
                  go_roundw
                  case rel => exact ⟨k + 1, _, _, by omega, by go_num, HM.out.step HSK.out HNB.out (by rw [HPV.out, ← HNE.out] <;> simp) (by rw [HPV.out, ← HTE.out]; simp [bs_text]) HG3.out HR3.out HB3.out⟩
                  case measure => simp [intOf]; omega
              ·
                by_cases k6 : s.k = 6
                · as_aux_lemma =>
                    have n1 : (s.k == 1) = false := by simp [k1]
                    have n2 : (s.k == 2) = false := by simp [k2]
                    have n3 : (s.k == 3) = false := by simp [k3]
                    have n4 : (s.k == 4) = false := by simp [k4]
                    have n5 : (s.k == 5) = false := by simp [k5]
                    have n6 : (s.k == 6) = true := by simp [k6]
                    have HPV : Hid (plV s = ([], [s.t.data.toList])) := by unfold Hid; simp [plV, k6]
                    rw [HPV.out] at hNl hTl
                    simp only [List.length_cons, List.length_nil] at hNl hTl
                    have hts : s.t.size ≤ 4611686018427387904 := by have := HF.out.2.2.1; omega
                    rcases hv : Lib.validD s.t.data.toList
                    · have HBAD : Hid (plBad s) := .inl ⟨k6, hv⟩
                      have HV := Lib.hid hv
                      obtain ⟨aN, cN, rfl⟩ := slice_form HG.out.nums
                      obtain ⟨aT, cT, rfl⟩ := slice_form HG.out.txts
                      clear hv k1 k2 k3 k4 k5 k6
                      go_wp2_with (go_at_call 64; have hrd := textOk_any s.t wa hts; rw [HV.out] at hrd; (with_reducible refine hrd.mono ?_); clear hrd; rintro e wb ⟨rfl, hbb⟩; have HGb : Hid (GotSt wb w.heap.size (w.heap.size + 1) (.slice aN N.length cN) (.slice aT T.length cT) N T) := HG.out.later hbb; obtain ⟨r0, r1, _, rf1⟩ := HGb.out.cells; have HRb := Lib.hid (HRB.out.below hbb HRB.out.lt); have z0 : wb.cell? ⟨w.heap.size, 0, none⟩ = some (.slice none 0 0) := (by rw [HRb.out.cell 0]; rfl); have z1 : wb.cell? ⟨w.heap.size, 1, none⟩ = some (.slice none 0 0) := (by rw [HRb.out.cell 1]; rfl); have zf0 := HRb.out.frozen 0; have zf1 := HRb.out.frozen 1; have HBb : Hid (Below w.heap.size w wb) := HBWA.out.trans (hbb.mono HZWA.out); have HZb : Hid (w.heap.size ≤ wb.heap.size) := HBb.out.size; have HVb := Lib.hid (HbA.out.below hbb HbA.out.lt); have b2 : wb.cell? ⟨wo.heap.size, 2, none⟩ = some (.string s.t) := (by rw [HVb.out.cell 2]; rfl); have HBB := Lib.hid hbb; clear hbb)
                      refine bodyPost_ret (v := .tuple #[.agg #[.slice aN N.length cN, .slice aT T.length cT], .bool false]) ?_ rfl ?_
                      · simp [results, Tryd.results46, go_sem, z0, z1]
                      · exact PlEnd.no ⟨s, HSM.out, HBAD.out⟩ HG.out ((HBb.out.setCell (Nat.le_refl _) _).setCell (Nat.le_refl _) _)
                    · have HNB : Hid (¬ plBad s) := by
                        rintro (⟨_, h⟩ | ⟨h, _⟩)
                        · rw [hv] at h; cases h
                        · omega
                      have HV := Lib.hid hv
                      clear hv k1 k2 k3 k4 k5 k6
                      go_wp2_with (first
                        | (go_at_call 64; have hrd := textOk_any s.t wa hts; rw [HV.out] at hrd; (with_reducible refine hrd.mono ?_); clear hrd; rintro e wb ⟨rfl, hbb⟩; have HGb : Hid (GotSt wb w.heap.size (w.heap.size + 1) vN vT N T) := HG.out.later hbb; obtain ⟨r0, r1, _, rf1⟩ := HGb.out.cells; have HRb := Lib.hid (HRB.out.below hbb HRB.out.lt); have z0 : wb.cell? ⟨w.heap.size, 0, none⟩ = some (.slice none 0 0) := (by rw [HRb.out.cell 0]; rfl); have z1 : wb.cell? ⟨w.heap.size, 1, none⟩ = some (.slice none 0 0) := (by rw [HRb.out.cell 1]; rfl); have zf0 := HRb.out.frozen 0; have zf1 := HRb.out.frozen 1; have HBb : Hid (Below w.heap.size w wb) := HBWA.out.trans (hbb.mono HZWA.out); have HZb : Hid (w.heap.size ≤ wb.heap.size) := HBb.out.size; have HVb := Lib.hid (HbA.out.below hbb HbA.out.lt); have b2 : wb.cell? ⟨wo.heap.size, 2, none⟩ = some (.string s.t) := (by rw [HVb.out.cell 2]; rfl); have HBB := Lib.hid hbb; clear hbb)
                        | (at_builtin; refine wpList_append_any _ rfl (.tmp 83) (.tmp 86) _ rfl w.heap.size 9 j0 _ 1 16 Tryd.underlying26 hj0 hy0 hy1 hy2 rfl (by decide) vT T.length (scells T) rfl (World.ownsRow.alloc HGb.out.txts _) (wb.heap.size + 1) (some ⟨wb.heap.size, 0, none⟩) 1 1 (scells [s.t]) rfl (reads_lit wb 9 [_]) (scells_one _) (by simp only [maxLen]; omega) (by omega) (by have := HZb.out; simp; omega) ?_; intro v3 w3 ho3 hg3 hat3; have hgg : GotSt (wb.alloc (.cells #[.string (s.t)] 9)) w.heap.size (w.heap.size + 1) vN vT N T := HGb.out.later ((Below.refl _ _).alloc (Nat.le_refl _) _); have hb3 := hgg.gT hg3; have q0 : w3.cell? ⟨w.heap.size + 1, 1, none⟩ = some vT := (by rw [hb3.cell 1]; rfl); have qf := hb3.frozen 1; have HG3 := Lib.hid (hgg.txt hg3 ho3); have HR3 : Hid (Blk (w3.setCell ⟨w.heap.size + 1, 1, none⟩ v3) w.heap.size 28 #[.slice none 0 0, .slice none 0 0]) := ((HRb.out.alloc _).grown hg3 (fun e => own_blk_ne HGb.out.txts HRb.out (by decide) e.symm)).far (by simp) _; have HB3 : Hid (Below w.heap.size w (w3.setCell ⟨w.heap.size + 1, 1, none⟩ v3)) := GotSt.below (HBb.out.alloc HZb.out _) (by have := HZb.out; simp; omega) hg3 (fun x e => (HGb.out.txts.lt x e).1) (Nat.le_succ _); obtain ⟨A3, c3, rfl⟩ := slice_form ho3; clear hgg hb3 ho3 hg3 hat3))
                      go_roundw
                      case rel => exact ⟨k + 1, _, _, by omega, by go_num, HM.out.step HSK.out HNB.out (by rw [HPV.out, ← HNE.out] <;> simp) (by rw [HPV.out, ← HTE.out]; simp [bs_text]) HG3.out HR3.out HB3.out⟩
                      case measure => simp [intOf]; omega
                ·
                  by_cases k7 : s.k = 7
                  · as_aux_lemma =>
                      have n1 : (s.k == 1) = false := by simp [k1]
                      have n2 : (s.k == 2) = false := by simp [k2]
                      have n3 : (s.k == 3) = false := by simp [k3]
                      have n4 : (s.k == 4) = false := by simp [k4]
                      have n5 : (s.k == 5) = false := by simp [k5]
                      have n6 : (s.k == 6) = false := by simp [k6]
                      have n7 : (s.k == 7) = true := by simp [k7]
                      have HNB : Hid (¬ plBad s) := fun h => by rcases h with ⟨h, _⟩ | ⟨h, _⟩ <;> omega
                      have HPV : Hid (plV s = ([wrap32 s.z], [])) := by unfold Hid; simp [plV, k7]
                      rw [HPV.out] at hNl hTl
                      simp only [List.length_cons, List.length_nil] at hNl hTl
                      have hwb := wrap32_bd s.z
                      clear k1 k2 k3 k4 k5 k6 k7
                      go_wp2_with (at_builtin; refine wpList_append_any _ rfl (.tmp 49) (.tmp 54) _ rfl w.heap.size 2 i0 _ 1 8 Tryd.underlying25 hi0 hz0 hz1 hz2 rfl (by decide) vN N.length (icells N) rfl (World.ownsRow.alloc HG.out.nums _) (wa.heap.size + 1) (some ⟨wa.heap.size, 0, none⟩) 1 1 (icells [wrap32 s.z]) rfl (reads_lit wa 2 [_]) (icells_one _) (by simp only [maxLen]; omega) (by omega) (by have := HZWA.out; simp; omega) ?_; intro v3 w3 ho3 hg3 hat3; have hgg : GotSt (wa.alloc (.cells #[.int .i64 (wrap32 s.z)] 2)) w.heap.size (w.heap.size + 1) vN vT N T := HG.out.later ((Below.refl _ _).alloc (Nat.le_refl _) _); have hb3 := hgg.gN hg3; have q0 : w3.cell? ⟨w.heap.size + 1, 0, none⟩ = some vN := (by rw [hb3.cell 0]; rfl); have qf := hb3.frozen 0; have HG3 := Lib.hid (hgg.num hg3 ho3); have HR3 : Hid (Blk (w3.setCell ⟨w.heap.size + 1, 0, none⟩ v3) w.heap.size 28 #[.slice none 0 0, .slice none 0 0]) := ((HRB.out.alloc _).grown hg3 (fun e => own_blk_ne HG.out.nums HRB.out (by decide) e.symm)).far (by simp) _; have HB3 : Hid (Below w.heap.size w (w3.setCell ⟨w.heap.size + 1, 0, none⟩ v3)) := GotSt.below (HBWA.out.alloc HZWA.out _) (by have := HZWA.out; simp; omega) hg3 (fun x e => (HG.out.nums.lt x e).1) (Nat.le_succ _); obtain ⟨A3, c3, rfl⟩ := slice_form ho3; clear hgg hb3 ho3 hg3 hat3)
                      go_roundw
                      case rel => exact ⟨k + 1, _, _, by omega, by go_num, HM.out.step HSK.out HNB.out (by rw [HPV.out, ← HNE.out] <;> simp) (by rw [HPV.out, ← HTE.out]; simp [bs_text]) HG3.out HR3.out HB3.out⟩
                      case measure => simp [intOf]; omega
                  ·
                    by_cases k8 : s.k = 8
                    · as_aux_lemma =>
                        have n1 : (s.k == 1) = false := by simp [k1]
                        have n2 : (s.k == 2) = false := by simp [k2]
                        have n3 : (s.k == 3) = false := by simp [k3]
                        have n4 : (s.k == 4) = false := by simp [k4]
                        have n5 : (s.k == 5) = false := by simp [k5]
                        have n6 : (s.k == 6) = false := by simp [k6]
                        have n7 : (s.k == 7) = false := by simp [k7]
                        have n8 : (s.k == 8) = true := by simp [k8]
                        have HPV : Hid (plV s = ([(s.n : Int)], s.L.map fun x => x.data.toList)) := by unfold Hid; simp [plV, k8]
                        have HK8 := Lib.hid k8
                        rw [HPV.out] at hNl hTl
                        simp only [List.length_cons, List.length_nil, List.length_map] at hNl hTl
                        have hsL := HF.out.1
                        have hsn := HF.out.2.1
                        rw [hsL] at hTl
                        have HSL := Lib.hid hsL
                        clear hsL k1 k2 k3 k4 k5 k6 k7 k8
                        go_wp2_with (at_builtin; refine wpList_append_any _ rfl (.tmp 92) (.tmp 96) _ rfl w.heap.size 2 i0 _ 1 8 Tryd.underlying25 hi0 hz0 hz1 hz2 rfl (by decide) vN N.length (icells N) rfl (World.ownsRow.alloc HG.out.nums _) (wa.heap.size + 1) (some ⟨wa.heap.size, 0, none⟩) 1 1 (icells [(s.n : Int)]) rfl (reads_lit wa 2 [_]) (icells_one _) (by simp only [maxLen]; omega) (by omega) (by have := HZWA.out; simp; omega) ?_; intro v3 w3 ho3 hg3 hat3; have hgg : GotSt (wa.alloc (.cells #[.int .i64 ((s.n : Int))] 2)) w.heap.size (w.heap.size + 1) vN vT N T := HG.out.later ((Below.refl _ _).alloc (Nat.le_refl _) _); have hb3 := hgg.gN hg3; have q0 : w3.cell? ⟨w.heap.size + 1, 0, none⟩ = some vN := (by rw [hb3.cell 0]; rfl); have qf := hb3.frozen 0; have HG3 := Lib.hid (hgg.num hg3 ho3); have HR3 : Hid (Blk (w3.setCell ⟨w.heap.size + 1, 0, none⟩ v3) w.heap.size 28 #[.slice none 0 0, .slice none 0 0]) := ((HRB.out.alloc _).grown hg3 (fun e => own_blk_ne HG.out.nums HRB.out (by decide) e.symm)).far (by simp) _; have HB3 : Hid (Below w.heap.size w (w3.setCell ⟨w.heap.size + 1, 0, none⟩ v3)) := GotSt.below (HBWA.out.alloc HZWA.out _) (by have := HZWA.out; simp; omega) hg3 (fun x e => (HG.out.nums.lt x e).1) (Nat.le_succ _); have HV4 : Hid (Blk (w3.setCell ⟨w.heap.size + 1, 0, none⟩ v3) wo.heap.size 68 #[.int .i64 s.k, .int .i64 s.z, .string s.t, .slice s.A s.n s.c]) := ((HbA.out.alloc _).grown hg3 (fun e => own_blk_ne HG.out.nums HbA.out (by decide) e.symm)).far (by simp; omega) _; obtain ⟨w4, hw4⟩ : ∃ w4, w3.setCell ⟨w.heap.size + 1, 0, none⟩ v3 = w4 := ⟨_, rfl⟩; rw [hw4] at HG3 HR3 HB3 HV4; obtain ⟨A3, c3, rfl⟩ := slice_form ho3; clear hgg hb3 ho3 hg3 hat3)
                        clear q0 qf HG HRB HBWA HZWA HBA HR g0 g1 gf0 gf1 a0 a1 a2 a3
                        go_loopw [7] (fun kk wr2 => ∃ (j : Nat) (vT2 : Value), j ≤ s.n ∧ kk = .int .i64 j ∧ Hid (∀ x ∈ s.L.take j, Lib.validD x.data.toList = true) ∧ GotSt wr2 w.heap.size (w.heap.size + 1) (.slice A3 (N.length + 1) c3) vT2 (N ++ [(s.n : Int)]) (T ++ s.L.take j) ∧ Blk wr2 w.heap.size 28 #[.slice none 0 0, .slice none 0 0] ∧ Blk wr2 wo.heap.size 68 #[.int .i64 s.k, .int .i64 s.z, .string s.t, .slice s.A s.n s.c] ∧ Below w.heap.size w wr2) (fun kk _ => s.n - (intOf kk).toNat)
                        case atStart => exact ⟨0, vT, Nat.zero_le _, rfl, (fun x hx => by simp at hx), by simpa using HG3.out, HR3.out, HV4.out, HB3.out⟩
                        case round =>
                          obtain ⟨j, vT2, hj, rfl, HVAL, hg2, hr2, hv2, hb2⟩ := hrel
                          have hz2 : w.heap.size + 3 ≤ wr.heap.size := by have := hv2.lt; omega
                          have g3 : wr.cell? ⟨wo.heap.size, 3, none⟩ = some (.slice s.A s.n s.c) := by rw [hv2.cell 3]; rfl
                          have HG2 := Lib.hid hg2
                          have HR2 := Lib.hid hr2
                          have HV2 := Lib.hid hv2
                          have HB2 := Lib.hid hb2
                          have HZ2 : Hid (w.heap.size ≤ wr.heap.size) := by unfold Hid; omega
                          clear hg2 hr2 hv2 hb2
                          by_cases hjl : j < s.n
                          · have hjL : j < s.L.length := by rw [HSL.out]; exact hjl
                            obtain ⟨ad, e, hadB, hc⟩ := ((HL.out s HSM.out).1.below (HB2.out.mono hB)).2 (by omega)
                            obtain ⟨x, hx⟩ : ∃ x, x = s.L[j] := ⟨_, rfl⟩
                            have hcell : wr.cell? (ad.add j) = some (.string x) := hc j (.string x) (by rw [hx]; simp [scells, List.getElem?_map, List.getElem?_eq_getElem hjL])
                            rw [e] at g3
                            have HE0 := Lib.hid e
                            clear e
                            have hxs : x.size ≤ 4611686018427387904 := by have := HF.out.2.2.2.1 x (by rw [hx]; exact List.getElem_mem hjL); omega
                            have HXM : Hid (x ∈ s.L) := by unfold Hid; rw [hx]; exact List.getElem_mem hjL
                            have HXT : Hid (s.L.take (j + 1) = s.L.take j ++ [x]) := by unfold Hid; rw [hx]; exact List.take_succ_eq_append_getElem hjL
                            have hi0 : (0 : Int) ≤ j := by omega
                            have hi1 : (j : Int) < s.n := by omega
                            obtain ⟨TT, hTT⟩ : ∃ TT, TT = T ++ s.L.take j := ⟨_, rfl⟩
                            have hTTl : TT.length + 1 ≤ 1099511627776 := by rw [hTT, List.length_append, List.length_take]; omega
                            have HTT := Lib.hid hTT
                            have HG2' := HG2.out
                            rw [← hTT] at HG2'
                            have HGT := Lib.hid HG2'
                            clear hc hx hjL hTT HG2'
                            rcases hv : Lib.validD x.data.toList
                            · have HBAD : Hid (plBad s) := .inr ⟨HK8.out, x, HXM.out, hv⟩
                              have HV := Lib.hid hv
                              obtain ⟨aT, cT, rfl⟩ := slice_form HGT.out.txts
                              clear hv
                              go_wp2_with (go_at_call 64; have hrd := textOk_any x wr hxs; rw [HV.out] at hrd; (with_reducible refine hrd.mono ?_); clear hrd; rintro e wb ⟨rfl, hbb⟩; have HGb : Hid (GotSt wb w.heap.size (w.heap.size + 1) (.slice A3 (N.length + 1) c3) (.slice aT TT.length cT) (N ++ [(s.n : Int)]) TT) := HGT.out.later hbb; obtain ⟨r0, r1, _, rf1⟩ := HGb.out.cells; have HRb := Lib.hid (HR2.out.below hbb HR2.out.lt); have z0 : wb.cell? ⟨w.heap.size, 0, none⟩ = some (.slice none 0 0) := (by rw [HRb.out.cell 0]; rfl); have z1 : wb.cell? ⟨w.heap.size, 1, none⟩ = some (.slice none 0 0) := (by rw [HRb.out.cell 1]; rfl); have zf0 := HRb.out.frozen 0; have zf1 := HRb.out.frozen 1; have HBb : Hid (Below w.heap.size w wb) := HB2.out.trans (hbb.mono HZ2.out); have HZb : Hid (w.heap.size ≤ wb.heap.size) := HBb.out.size; have HVb := Lib.hid (HV2.out.below hbb HV2.out.lt); have b2 : wb.cell? ⟨wo.heap.size, 2, none⟩ = some (.string s.t) := (by rw [HVb.out.cell 2]; rfl); have HBB := Lib.hid hbb; clear hbb)
                              refine bodyPost_ret (v := .tuple #[.agg #[.slice A3 (N.length + 1) c3, .slice aT TT.length cT], .bool false]) ?_ rfl ?_
                              · simp [results, Tryd.results46, go_sem, z0, z1]
                              · exact .inr ⟨⟨s, HSM.out, HBAD.out⟩, _, _, _, _, _, _, rfl, (HBb.out.setCell (Nat.le_refl _) _).setCell (Nat.le_refl _) _⟩
                            · have HV := Lib.hid hv
                              have HVN : Hid (∀ y ∈ s.L.take (j + 1), Lib.validD y.data.toList = true) := by
                                intro y hy
                                rw [HXT.out] at hy
                                rcases List.mem_append.1 hy with h | h
                                · exact HVAL.out y h
                                · rw [List.mem_singleton.1 h]; exact hv
                              clear hv
                              go_wp2_with (go_at_call 64; have hrd := textOk_any x wr hxs; rw [HV.out] at hrd; (with_reducible refine hrd.mono ?_); clear hrd; rintro e wb ⟨rfl, hbb⟩; have HGb : Hid (GotSt wb w.heap.size (w.heap.size + 1) (.slice A3 (N.length + 1) c3) vT2 (N ++ [(s.n : Int)]) TT) := HGT.out.later hbb; obtain ⟨r0, r1, _, rf1⟩ := HGb.out.cells; have HRb := Lib.hid (HR2.out.below hbb HR2.out.lt); have z0 : wb.cell? ⟨w.heap.size, 0, none⟩ = some (.slice none 0 0) := (by rw [HRb.out.cell 0]; rfl); have z1 : wb.cell? ⟨w.heap.size, 1, none⟩ = some (.slice none 0 0) := (by rw [HRb.out.cell 1]; rfl); have zf0 := HRb.out.frozen 0; have zf1 := HRb.out.frozen 1; have HBb : Hid (Below w.heap.size w wb) := HB2.out.trans (hbb.mono HZ2.out); have HZb : Hid (w.heap.size ≤ wb.heap.size) := HBb.out.size; have HVb := Lib.hid (HV2.out.below hbb HV2.out.lt); have b2 : wb.cell? ⟨wo.heap.size, 2, none⟩ = some (.string s.t) := (by rw [HVb.out.cell 2]; rfl); have HBB := Lib.hid hbb; clear hbb)
                              have b3 : wb.cell? ⟨wo.heap.size, 3, none⟩ = some (.slice (some ad) s.n s.c) := (HBB.out.cell (p := ⟨wo.heap.size, 3, none⟩) HV2.out.lt).trans g3
                              have bx : wb.cell? (ad.add j) = some (.string x) := (HBB.out.cell (p := ad.add j) (by rw [block_of_add]; omega)).trans hcell
                              have hvo := HV2.out.lt
                              have hgb2 : GotSt (wb.alloc (.cells #[.string x] 9)).drew w.heap.size (w.heap.size + 1) (.slice A3 (N.length + 1) c3) vT2 (N ++ [(s.n : Int)]) TT := HGb.out.later ((Below.refl _ _).alloc (Nat.le_refl _) _).drew
                              have HGD := Lib.hid hgb2
                              have hlt2 : w.heap.size + 1 < wb.heap.size := HGb.out.blk.lt
                              clear hgb2
                              go_region_law ((refine step_append_any _ (by rfl) (.tmp 115) (.tmp 121) _ (by rfl) w.heap.size 9 j0 _ 1 16 Tryd.underlying26 hj0 hy0 hy1 hy2 rfl (by decide) vT2 TT.length (scells TT) (by simp [Act.eval, Act.put]) HGD.out.txts (wb.heap.size + 1) (some ⟨wb.heap.size, 0, none⟩) 1 1 (scells [x]) (by simp [Act.eval, Act.put]) (reads_lit wb 9 [_]).drew (scells_one _) (by simp only [maxLen]; omega) (by omega) (by have := HZb.out; simp; omega) ?_; intro v5 w5 ho5 hg5 hat5; have HG5 := Lib.hid (HGD.out.txt hg5 ho5); have hb5 := HGD.out.gT hg5; have q5 : w5.cell? ⟨w.heap.size + 1, 1, none⟩ = some vT2 := (by rw [hb5.cell 1]; rfl); have qf5 := hb5.frozen 1; have HV5 : Hid (Blk w5 wo.heap.size 68 #[.int .i64 s.k, .int .i64 s.z, .string s.t, .slice s.A s.n s.c]) := ((HVb.out.alloc _).drew).grown hg5 (fun e => own_blk_ne HGb.out.txts HVb.out (by decide) e.symm); have HR5 : Hid (Blk w5 w.heap.size 28 #[.slice none 0 0, .slice none 0 0]) := ((HRb.out.alloc _).drew).grown hg5 (fun e => own_blk_ne HGb.out.txts HRb.out (by decide) e.symm); have HB5 : Hid (Below w.heap.size w w5) := ((HBb.out.alloc HZb.out _).drew).grown hg5 (by have := HZb.out; simp; omega) (fun x e => (HGb.out.txts.lt x e).1); obtain ⟨A5, c5, rfl⟩ := slice_form ho5; clear hb5 ho5 hg5 hat5))
                              go_ways
                              all_goals (
                                go_wp2
                                go_roundw
                                case rel => exact ⟨j + 1, _, by omega, by go_num, HVN.out, by rw [HXT.out, ← List.append_assoc, ← HTT.out]; exact HG5.out, HR5.out.far (by simp) _, HV5.out.far (by simp; omega) _, HB5.out.setCell (Nat.le_succ _) _⟩
                                case measure => simp [intOf]; omega)
                          · obtain rfl : j = s.n := by omega
                            have hta : s.L.take s.n = s.L := List.take_of_length_le (by rw [HSL.out]; exact Nat.le_refl _)
                            have HNB : Hid (¬ plBad s) := by
                              have h8 := HK8.out
                              rintro (⟨h, _⟩ | ⟨_, x, hx, h⟩)
                              · omega
                              · have h9 := HVAL.out x (by rw [hta]; exact hx)
                                rw [h] at h9; cases h9
                            have HTA := Lib.hid hta
                            clear hta
                            go_wp2
                            go_roundw
                            case rel => exact ⟨k + 1, _, _, by omega, by go_num, HM.out.step HSK.out HNB.out (by rw [HPV.out, ← HNE.out]) (by rw [HPV.out, ← HTE.out]) (by have h := HG2.out; rw [HTA.out] at h; simpa [bs_text, Function.comp_def] using h) HR2.out HB2.out⟩
                            case measure => simp [intOf]; omega
                    ·
                      as_aux_lemma =>
                        have n1 : (s.k == 1) = false := by simp [k1]
                        have n2 : (s.k == 2) = false := by simp [k2]
                        have n3 : (s.k == 3) = false := by simp [k3]
                        have n4 : (s.k == 4) = false := by simp [k4]
                        have n5 : (s.k == 5) = false := by simp [k5]
                        have n6 : (s.k == 6) = false := by simp [k6]
                        have n7 : (s.k == 7) = false := by simp [k7]
                        have n8 : (s.k == 8) = false := by simp [k8]
                        have HPV : Hid (plV s = ([], [])) := by unfold Hid; simp [plV, k1, k2, k3, k4, k5, k6, k7, k8]
                        have HNB : Hid (¬ plBad s) := fun h => by rcases h with ⟨h, _⟩ | ⟨h, _⟩ <;> omega
                        clear k1 k2 k3 k4 k5 k6 k7 k8
                        go_wp2
                        go_roundw
                        case rel => exact ⟨k + 1, _, _, by omega, by go_num, HM.out.step HSK.out HNB.out (by rw [HPV.out, ← HNE.out, List.append_nil]) (by rw [HPV.out, ← HTE.out]; simp) HG.out HRB.out HBWA.out⟩
                        case measure => simp [intOf]; omega
    · have hkl : S.take k = S := List.take_of_length_le (by omega)
      obtain ⟨m1, m2, m3, m4⟩ := HM.out
      rw [hkl] at m1 m2
      obtain ⟨g0, g1, _, _⟩ := m2.cells
      have z0 : wo.cell? ⟨w.heap.size, 0, none⟩ = some (.slice none 0 0) := by rw [m3.cell 0]; rfl
      have z1 : wo.cell? ⟨w.heap.size, 1, none⟩ = some (.slice none 0 0) := by rw [m3.cell 1]; rfl
      have zf0 := m3.frozen 0
      have zf1 := m3.frozen 1
      have H1 := Lib.hid m1
      have H2 := Lib.hid m2
      have H3 := Lib.hid m3
      have H4 := Lib.hid m4
      obtain ⟨aN, cN, rfl⟩ := slice_form m2.nums
      obtain ⟨aT, cT, rfl⟩ := slice_form m2.txts
      clear hkl m1 m2 m3 m4
      go_wp2
      refine bodyPost_ret (v := .tuple #[.agg #[.slice aN (plG S).1.length cN, .slice aT ((plG S).2.map bs).length cT], .bool true]) ?_ rfl ?_
      · trace_state; simp [results, Tryd.results46, go_sem, z0, z1]
      · refine .inl ⟨H1.out, _, _, rfl, ?_, ?_, (H4.out.setCell (Nat.le_refl _) _).setCell (Nat.le_refl _) _⟩
        · exact own_set (own_set H2.out.nums H3.out (by decide) 0 _) (H3.out.set_ 0 _) (by decide) 1 _
        · have h := own_set (own_set H2.out.txts H3.out (by decide) 0 (.slice aN (plG S).1.length cN)) (H3.out.set_ 0 _) (by decide) 1 (.slice aT ((plG S).2.map bs).length cT)
          rw [List.length_map] at h ⊢
          exact h
end Go.Proofs.YtbegingiedbldaaDoor
