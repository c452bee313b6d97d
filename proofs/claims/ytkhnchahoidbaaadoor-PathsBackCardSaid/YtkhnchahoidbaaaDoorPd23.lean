/- What the walks ask of the world; who is under whom, the order by the program; what must be so of any program: the walks. -/
import Derived.Test.YtkhnchahoidbaaaDoorPd22
import Derived.Test.YtkhnchahoidbaaaDoorPd10
namespace Go.Proofs.YtkhnchahoidbaaaDoor
open Go.RowKit

/-- the library's variables, as the program lays them -/
structure Env (w : World) : Prop where
  c0 : ∃ m, w.cell? ⟨0, 0, none⟩ = some (.int .i64 m)
  c2 : ∃ es, w.cell? ⟨2, 0, none⟩ = some es ∧ (es = .nilIface ∨ ∃ te pe, es = .iface te pe)
  c3 : ∃ es, w.cell? ⟨3, 0, none⟩ = some es ∧ (es = .nilIface ∨ ∃ te pe, es = .iface te pe)
  hG : 3 < w.heap.size
  tab : Lib.TabBelow Tryd.prog w.heap.size w "internal/strconv.uint64pow10" .u64 Lib.pow10Tab
theorem Env.on {w W : World} (h : Env w) (hB : Below w.heap.size w W) : Env W := by
  have hG := h.hG
  refine ⟨?_, ?_, ?_, Nat.lt_of_lt_of_le hG hB.size, fun w' h' => h.tab w' (hB.trans (h'.mono hB.size))⟩
  · obtain ⟨m, hm⟩ := h.c0
    exact ⟨m, by rw [hB.cell (p := ⟨0, 0, none⟩) (by show 0 < _; omega)]; exact hm⟩
  · obtain ⟨m, hm, hh⟩ := h.c2
    exact ⟨m, by rw [hB.cell (p := ⟨2, 0, none⟩) (by show 2 < _; omega)]; exact hm, hh⟩
  · obtain ⟨m, hm, hh⟩ := h.c3
    exact ⟨m, by rw [hB.cell (p := ⟨3, 0, none⟩) (by show 3 < _; omega)]; exact hm, hh⟩

/-- is a the path, or above it? -/
def undB (a p : ByteArray) : Bool := (a.toList == p.toList) || (a.toList == [47]) || Lib.hasPrefix p.data.toList (a ++ ⟨#[47]⟩ : ByteArray).data.toList
def underB (a p : ByteArray) : Bool := okB a && okB p && undB a p

set_option maxRecDepth 100000 in
set_option maxHeartbeats 2000000 in
theorem under_any (a p : ByteArray) (ha : a.size ≤ 140737488355328) (w : World) (m : Int) (hm : w.cell? ⟨0, 0, none⟩ = some (.int .i64 m)) (hG : 0 < w.heap.size) :
    Calls Tryd.prog 27 #[.string a, .string p] w fun e w' => e = .returned (.bool (underB a p)) ∧ Below w.heap.size w w' := by
  have hcell : ∀ W, Below w.heap.size w W → W.cell? ⟨0, 0, none⟩ = some (.int .i64 m) := fun W hB => by
    rw [hB.cell (p := ⟨0, 0, none⟩) hG]
    exact hm
  have PA : ∀ W, Below w.heap.size w W → Calls Tryd.prog 28 #[.string a] W fun e w' => e = .returned (.bool (okB a)) ∧ Below W.heap.size W w' := fun W hB => valid_ok _ W m (hcell W hB) (Nat.lt_of_lt_of_le hG hB.size)
  have PP : ∀ W, Below w.heap.size w W → Calls Tryd.prog 28 #[.string p] W fun e w' => e = .returned (.bool (okB p)) ∧ Below W.heap.size W w' := fun W hB => valid_ok _ W m (hcell W hB) (Nat.lt_of_lt_of_le hG hB.size)
  have HPA := Lib.hid PA
  have HPP := Lib.hid PP
  clear hcell hm PA PP
  have hu : underB a p = (okB a && okB p && ((a.toList == p.toList) || (a.toList == [47]) || Lib.hasPrefix p.data.toList (a ++ ⟨#[47]⟩ : ByteArray).data.toList)) := rfl
  rcases Bool.eq_false_or_eq_true (okB a) with g1 | g1
  · rcases Bool.eq_false_or_eq_true (okB p) with g2 | g2
    · go_enter Tryd.func27, Tryd.ntmps27
      go_wp2_with (first
        | (go_at_call 28; refine (HPP.out _ hB2).mono ?_; rintro e w4 ⟨rfl, hb4⟩; have hB4 : Below w.heap.size w w4 := hB2.trans (hb4.mono hB2.size); rw [g2])
        | (go_at_call 28; refine (HPA.out _ (Below.refl _ _)).mono ?_; rintro e w2 ⟨rfl, hB2⟩; rw [g1])
        | (go_at_call 45; refine (hasPrefix_any _ _ _).mono ?_; rintro e w5 ⟨rfl, rfl⟩))
      all_goals
        go_ret
        exact ⟨retb (by rw [hu, g1, g2]; simp [*]), hB4⟩
    · have e : underB a p = false := by rw [hu, g1, g2]; rfl
      rw [e]
      go_enter Tryd.func27, Tryd.ntmps27
      go_wp2_with (first
        | (go_at_call 28; refine (HPP.out _ hB2).mono ?_; rintro e w4 ⟨rfl, hb4⟩; have hB4 : Below w.heap.size w w4 := hB2.trans (hb4.mono hB2.size); rw [g2])
        | (go_at_call 28; refine (HPA.out _ (Below.refl _ _)).mono ?_; rintro e w2 ⟨rfl, hB2⟩; rw [g1]))
      go_ret
      exact ⟨rfl, hB4⟩
  · have e : underB a p = false := by rw [hu, g1]; rfl
    rw [e]
    go_enter Tryd.func27, Tryd.ntmps27
    go_wp2_with (first
      | (go_at_call 28; refine (HPA.out _ (Below.refl _ _)).mono ?_; rintro e w2 ⟨rfl, hB2⟩; rw [g1]))
    go_ret
    exact ⟨rfl, hB2⟩

def ordB (a b : ByteArray) : Int := Lib.compareBytes a.data.toList b.data.toList
theorem ordB_self (a : ByteArray) : ordB a a = 0 := by
  unfold ordB
  induction a.data.toList with
  | nil => rfl
  | cons x l ih => unfold Lib.compareBytes; rw [if_neg (UInt8.lt_irrefl x), if_neg (UInt8.lt_irrefl x), ih]
theorem order_any (a b : ByteArray) (w : World) : Calls Tryd.prog 26 #[.string a, .string b] w fun e w' => e = .returned (.int .i64 (ordB a b)) ∧ w = w' := by
  have HC : ∀ W, Calls Tryd.prog 44 #[.string a, .string b] W fun e w' => e = .returned (.int .i64 (ordB a b)) ∧ w' = W := fun W => Tryd.strings_Compare a b W
  have HCC := Lib.hid HC
  clear HC
  go_enter Tryd.func26, Tryd.ntmps26
  go_wp2_with (go_at_call 44; refine (HCC.out _).mono ?_; rintro e w2 ⟨rfl, rfl⟩)
  go_ret
  exact ⟨rfl, rfl⟩


section
variable {w W : World} (hE : Env w) (hB : Below w.heap.size w W)
include hE hB
theorem e_parent (s : ByteArray) : Calls Tryd.prog 12 #[.string s] W fun e w' => e = .returned (.tuple #[.string (parT s), .int .i64 (parE s)]) ∧ Below w.heap.size w w' := by
  obtain ⟨m, hm⟩ := (hE.on hB).c0
  exact (parent_all s W m hm (by have := (hE.on hB).hG; omega)).mono fun _ _ ⟨he, hb⟩ => ⟨he, hB.trans (hb.mono hB.size)⟩
theorem e_valid (s : ByteArray) : Calls Tryd.prog 28 #[.string s] W fun e w' => e = .returned (.bool (okB s)) ∧ Below w.heap.size w w' := by
  obtain ⟨m, hm⟩ := (hE.on hB).c0
  exact (valid_ok s W m hm (by have := (hE.on hB).hG; omega)).mono fun _ _ ⟨he, hb⟩ => ⟨he, hB.trans (hb.mono hB.size)⟩
theorem e_seq (p : ByteArray) (hp : p.size ≤ 140737488355327) (n : Int) (h0 : -2147483648 ≤ n) (h1 : n ≤ 2147483647) : Calls Tryd.prog 19 #[.string p, .int .i32 n] W fun e w' => e = .returned (.tuple #[.string (seqT p n), .int .i64 (seqE p n)]) ∧ Below w.heap.size w w' := by
  obtain ⟨m, hm⟩ := (hE.on hB).c0
  exact (seq_any p hp n h0 h1 W (hE.on hB).tab m hm (by have := (hE.on hB).hG; omega)).mono fun _ _ ⟨he, hb⟩ => ⟨he, hB.trans (hb.mono hB.size)⟩
theorem e_split (p : ByteArray) (hp : p.size ≤ 140737488355327) : Calls Tryd.prog 23 #[.string p] W fun e w' => e = .returned (.tuple #[.string (splT p), .int .i32 (splV p), .bool (splB p)]) ∧ Below w.heap.size w w' := by
  obtain ⟨m, hm⟩ := (hE.on hB).c0
  obtain ⟨es, h2, h2'⟩ := (hE.on hB).c2
  obtain ⟨er, h3, h3'⟩ := (hE.on hB).c3
  exact (split_any p hp W m hm (hE.on hB).hG es er h2 h2' h3 h3').mono fun _ _ ⟨he, hb⟩ => ⟨he, hB.trans (hb.mono hB.size)⟩
theorem e_under (a p : ByteArray) (ha : a.size ≤ 140737488355328) : Calls Tryd.prog 27 #[.string a, .string p] W fun e w' => e = .returned (.bool (underB a p)) ∧ Below w.heap.size w w' := by
  obtain ⟨m, hm⟩ := (hE.on hB).c0
  exact (under_any a p ha W m hm (by have := (hE.on hB).hG; omega)).mono fun _ _ ⟨he, hb⟩ => ⟨he, hB.trans (hb.mono hB.size)⟩
omit hE in
theorem e_order (a b : ByteArray) : Calls Tryd.prog 26 #[.string a, .string b] W fun e w' => e = .returned (.int .i64 (ordB a b)) ∧ Below w.heap.size w w' :=
  (order_any a b W).mono fun _ _ ⟨he, h⟩ => ⟨he, by rw [← h]; exact hB⟩
end

/-! ### what must be so of any program -/
theorem nm12 : nm 12 = ⟨#[49, 50]⟩ := by
  unfold nm
  rw [Lib.decDigits, dif_neg (by decide), Lib.decDigits, dif_pos (by decide)]
  rfl
theorem suf12 : sufB 12 = ⟨#[48, 48, 48, 48, 48, 48, 48, 48, 49, 50]⟩ := by
  unfold sufB
  rw [if_neg (by decide), show (12 : Int).toNat = 12 from rfl, nm12]
  rfl
theorem k_par : parT ⟨#[47, 97, 47, 98]⟩ = ⟨#[47, 97]⟩ ∧ parE ⟨#[47, 97, 47, 98]⟩ = 0 := ⟨by kernel_rfl, by kernel_rfl⟩
theorem k_seqB : seqB ⟨#[47, 113, 47, 110, 45]⟩ 12 = true := by
  unfold seqB
  rw [suf12]
  kernel_rfl
theorem k_seq : seqT ⟨#[47, 113, 47, 110, 45]⟩ 12 = ⟨#[47, 113, 47, 110, 45, 48, 48, 48, 48, 48, 48, 48, 48, 49, 50]⟩ ∧ seqE ⟨#[47, 113, 47, 110, 45]⟩ 12 = 0 := by
  unfold seqT seqE
  rw [k_seqB, suf12]
  exact ⟨by kernel_rfl, rfl⟩
theorem k_spl : splT ⟨#[47, 113, 47, 110, 45, 48, 48, 48, 48, 48, 48, 48, 48, 49, 50]⟩ = ⟨#[47, 113, 47, 110, 45]⟩ ∧ splV ⟨#[47, 113, 47, 110, 45, 48, 48, 48, 48, 48, 48, 48, 48, 49, 50]⟩ = 12 ∧ splB ⟨#[47, 113, 47, 110, 45, 48, 48, 48, 48, 48, 48, 48, 48, 49, 50]⟩ = true := ⟨by kernel_rfl, by kernel_rfl, by kernel_rfl⟩
theorem k_ok : okB ⟨#[47]⟩ = true ∧ okB ⟨#[97]⟩ = false := ⟨by kernel_rfl, by kernel_rfl⟩
theorem k_und : underB ⟨#[47, 97]⟩ ⟨#[47, 97, 47, 98]⟩ = true := by kernel_rfl
theorem k_ord : ordB ⟨#[47, 97]⟩ ⟨#[47, 98]⟩ = -1 := by kernel_rfl

set_option maxRecDepth 100000 in
set_option maxHeartbeats 2000000 in
theorem alive_any {w : World} (hE : Env w) : Calls Tryd.prog 25 #[] w fun e w' => e = .returned (.bool true) ∧ Below w.heap.size w w' := by
  have H1 : Hid (Calls Tryd.prog 12 #[.string ⟨#[47, 97, 47, 98]⟩] w fun e w' => e = .returned (.tuple #[.string ⟨#[47, 97]⟩, .int .i64 0]) ∧ Below w.heap.size w w') := by
    have := e_parent hE (Below.refl _ _) ⟨#[47, 97, 47, 98]⟩
    rw [k_par.1, k_par.2] at this
    exact this
  have H2 : Hid (∀ W, Below w.heap.size w W → Calls Tryd.prog 19 #[.string ⟨#[47, 113, 47, 110, 45]⟩, .int .i32 12] W fun e w' => e = .returned (.tuple #[.string ⟨#[47, 113, 47, 110, 45, 48, 48, 48, 48, 48, 48, 48, 48, 49, 50]⟩, .int .i64 0]) ∧ Below w.heap.size w w') := fun W hB => by
    have := e_seq hE hB ⟨#[47, 113, 47, 110, 45]⟩ (by decide) 12 (by decide) (by decide)
    rw [k_seq.1, k_seq.2] at this
    exact this
  have H3 : Hid (∀ W, Below w.heap.size w W → Calls Tryd.prog 23 #[.string ⟨#[47, 113, 47, 110, 45, 48, 48, 48, 48, 48, 48, 48, 48, 49, 50]⟩] W fun e w' => e = .returned (.tuple #[.string ⟨#[47, 113, 47, 110, 45]⟩, .int .i32 12, .bool true]) ∧ Below w.heap.size w w') := fun W hB => by
    have := e_split hE hB ⟨#[47, 113, 47, 110, 45, 48, 48, 48, 48, 48, 48, 48, 48, 49, 50]⟩ (by decide)
    rw [k_spl.1, k_spl.2.1, k_spl.2.2] at this
    exact this
  have H4 : Hid (∀ W, Below w.heap.size w W → Calls Tryd.prog 28 #[.string ⟨#[47]⟩] W fun e w' => e = .returned (.bool true) ∧ Below w.heap.size w w') := fun W hB => by
    have := e_valid hE hB ⟨#[47]⟩
    rw [k_ok.1] at this
    exact this
  have H5 : Hid (∀ W, Below w.heap.size w W → Calls Tryd.prog 28 #[.string ⟨#[97]⟩] W fun e w' => e = .returned (.bool false) ∧ Below w.heap.size w w') := fun W hB => by
    have := e_valid hE hB ⟨#[97]⟩
    rw [k_ok.2] at this
    exact this
  have H6 : Hid (∀ W, Below w.heap.size w W → Calls Tryd.prog 27 #[.string ⟨#[47, 97]⟩, .string ⟨#[47, 97, 47, 98]⟩] W fun e w' => e = .returned (.bool true) ∧ Below w.heap.size w w') := fun W hB => by
    have := e_under hE hB ⟨#[47, 97]⟩ ⟨#[47, 97, 47, 98]⟩ (by decide)
    rw [k_und] at this
    exact this
  have H7 : Hid (∀ W, Below w.heap.size w W → Calls Tryd.prog 26 #[.string ⟨#[47, 97]⟩, .string ⟨#[47, 98]⟩] W fun e w' => e = .returned (.int .i64 (-1)) ∧ Below w.heap.size w w') := fun W hB => by
    have := e_order hB ⟨#[47, 97]⟩ ⟨#[47, 98]⟩
    rw [k_ord] at this
    exact this
  clear hE
  go_enter Tryd.func25, Tryd.ntmps25
  go_wp2_with (first
    | (go_at_call 12; refine H1.out.mono ?_; rintro e w1 ⟨rfl, hb1⟩)
    | (go_at_call 19; refine (H2.out _ hb1).mono ?_; rintro e w2 ⟨rfl, hb2⟩)
    | (go_at_call 23; refine (H3.out _ hb2).mono ?_; rintro e w3 ⟨rfl, hb3⟩)
    | (go_at_call 28; refine (H5.out _ hb4).mono ?_; rintro e w5 ⟨rfl, hb5⟩)
    | (go_at_call 28; refine (H4.out _ (by first | exact hb3 | exact below_drewN' hb3 _)).mono ?_; rintro e w4 ⟨rfl, hb4⟩)
    | (go_at_call 27; refine (H6.out _ hb5).mono ?_; rintro e w6 ⟨rfl, hb6⟩)
    | (go_at_call 26; refine (H7.out _ hb6).mono ?_; rintro e w7 ⟨rfl, hb7⟩))
  go_ret
  exact ⟨rfl, hb7⟩
end Go.Proofs.YtkhnchahoidbaaaDoor
