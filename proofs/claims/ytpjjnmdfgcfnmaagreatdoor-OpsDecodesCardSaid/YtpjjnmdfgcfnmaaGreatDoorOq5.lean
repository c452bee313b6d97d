/- arborref11.Same: are two operations the same? (printed by gen_p5.py) -/
import Derived.Test.YtpjjnmdfgcfnmaaGreatDoorOq4
set_option linter.unusedVariables false
set_option linter.unusedSimpArgs false
namespace Go.Proofs.YtpjjnmdfgcfnmaaGreatDoor
open Go.RowKit

theorem subs_row : ∀ (Q : List (OpC × List Value)), (∀ q ∈ Q, q.2.length = 19) → ∀ (j : Nat) (hj : j < Q.length) (k : Nat), k < 19 → (Q.flatMap Prod.snd)[j * 19 + k]? = (Q[j]).2[k]?
  | [], _, j, hj, _, _ => absurd hj (by simp)
  | q :: r, h, j, hj, k, hk => by
    have hq := h q (by simp)
    rw [List.flatMap_cons]
    rcases j with _ | j
    · rw [Nat.zero_mul, Nat.zero_add, List.getElem?_append_left (by omega)]
      rfl
    · rw [List.getElem?_append_right (by omega), hq, show (j + 1) * 19 + k - 19 = j * 19 + k by omega, subs_row r (fun x hx => h x (by simp [hx])) j (by simpa using hj) k hk]
      rfl
/-- the cells of a row of the list, where they lie -/
theorem subs_cells {w : World} {B n : Nat} {A : Option Addr} {Q : List (OpC × List Value)} (h : Reads w B 19 A n (Q.flatMap Prod.snd)) (hl : ∀ q ∈ Q, q.2.length = 19) {j : Nat} (hj : j < Q.length) (hn : Q.length = n) :
    ∃ ad, A = some ad ∧ ∀ k v, (Q[j]).2[k]? = some v → w.cell? ((ad.add (j * 19)).add k) = some v := by
  obtain ⟨ad, hA, _, hc⟩ := h.2 (by omega)
  refine ⟨ad, hA, fun k v hk => ?_⟩
  have hk22 : k < 19 := by
    have := (List.getElem?_eq_some_iff.1 hk).1
    rwa [hl _ (List.getElem_mem hj)] at this
  rw [add_of_add]
  exact hc (j * 19 + k) v ((subs_row Q hl j hj k hk22).trans hk)

set_option maxRecDepth 100000 in
set_option maxHeartbeats 8000000 in
theorem same_walk {lo lo' : Option Nat} (f g : OpF) (d a k0 k1 k2 k3 k4 i s d' a' k0' k1' k2' k3' k4' i' s' : Sl) (Q Q' : List (OpC × List Value)) (bs : Nat → Bool) (b : Bool) (w : World) (h : FAt w lo f d a k0 k1 k2 k3 k4 i) (h' : FAt w lo' g d' a' k0' k1' k2' k3' k4' i')
    (hs : SlAt w lo 29 19 296 s Q.length (Q.flatMap Prod.snd)) (hs' : SlAt w lo' 29 19 296 s' Q'.length (Q'.flatMap Prod.snd)) (hq : ∀ q ∈ Q, q.2.length = 19) (hq' : ∀ q ∈ Q', q.2.length = 19)
    (IH : ∀ j (h : j < Q.length) (h' : j < Q'.length) W, Below w.heap.size w W → Calls Tryz.prog 15 #[.agg (Q[j]).2.toArray, .agg (Q'[j]).2.toArray] W fun e w' => e = .returned (.bool (bs j)) ∧ Below W.heap.size W w')
    (N1 : ¬ (f.t = g.t ∧ f.p = g.p ∧ f.l = g.l ∧ f.L = g.L ∧ f.fl = g.fl ∧ f.ve = g.ve ∧ f.wa = g.wa) → b = false)
    (N2 : ¬ (f.tl = g.tl ∧ f.zx = g.zx ∧ f.ct = g.ct ∧ f.by_ = g.by_ ∧ f.to = g.to ∧ f.I = g.I ∧ Q.length = Q'.length) → b = false)
    (N3 : ∀ k (h : k < 5), (f.lists[k]'h) ≠ (g.lists[k]'h) → b = false) (N4 : ∀ j, j < Q.length → j < Q'.length → bs j = false → b = false)
    (Y : (f.t = g.t ∧ f.p = g.p ∧ f.l = g.l ∧ f.L = g.L ∧ f.fl = g.fl ∧ f.ve = g.ve ∧ f.wa = g.wa) → (∀ k (h : k < 5), (f.lists[k]'h) = (g.lists[k]'h)) → (f.tl = g.tl ∧ f.zx = g.zx ∧ f.ct = g.ct ∧ f.by_ = g.by_ ∧ f.to = g.to ∧ f.I = g.I ∧ Q.length = Q'.length) → (∀ j, j < Q.length → bs j = true) → b = true)
    (cs ds : Array Value) (hcs : cs = (f.row d a k0 k1 k2 k3 k4 i s).toArray) (hds : ds = (g.row d' a' k0' k1' k2' k3' k4' i' s').toArray) :
    Calls Tryz.prog 15 #[.agg cs, .agg ds] w fun e w' => e = .returned (.bool b) ∧ Below w.heap.size w w' := by
  obtain ⟨w1, hw1⟩ : ∃ w1, (w.alloc (.cells cs 29)).alloc (.cells ds 29) = w1 := ⟨_, rfl⟩
  have hb1 : Below w.heap.size w w1 := by rw [← hw1]; exact ((Below.refl _ _).alloc (Nat.le_refl _) _).alloc (by simp) _
  have hS : Blk w1 w.heap.size 29 (f.row d a k0 k1 k2 k3 k4 i s).toArray := by rw [← hcs, ← hw1]; exact (Blk.new _ _ _).alloc _
  have hT : Blk w1 (w.heap.size + 1) 29 (g.row d' a' k0' k1' k2' k3' k4' i' s').toArray := by rw [← hds, ← hw1]; exact Blk.new' (by simp)
  have CX : Hid (∀ W, Below w.heap.size w W → (convert 22 9 (.slice d.A d.n d.c)).run Tryz.prog W = .ok (.string ⟨f.l.toArray⟩) W) := fun W hW => run_string_of_bytes Tryz.underlying22 Tryz.underlying5 (h.d.reads.below hW) 9 Tryz.underlying9
  have CY : Hid (∀ W, Below w.heap.size w W → (convert 22 9 (.slice d'.A d'.n d'.c)).run Tryz.prog W = .ok (.string ⟨g.l.toArray⟩) W) := fun W hW => run_string_of_bytes Tryz.underlying22 Tryz.underlying5 (h'.d.reads.below hW) 9 Tryz.underlying9
  have CA : Hid (∀ W, Below w.heap.size w W → Calls Tryz.prog 35 #[.slice a.A a.n a.c, .slice a'.A a'.n a'.c] W fun e w' => e = .returned (.bool (decide (f.L = g.L))) ∧ Below W.heap.size W w') := fun W hW => acls05_any _ _ _ _ _ _ _ _ w.heap.size W (Nat.le_trans (h.a.bd (by decide)) (by decide)) (Nat.le_trans (h'.a.bd (by decide)) (by decide)) hW.size (h.a.reads.below hW) (h'.a.reads.below hW)
  have CI : Hid (∀ W, Below w.heap.size w W → Calls Tryz.prog 37 #[.slice i.A i.n i.c, .slice i'.A i'.n i'.c] W fun e w' => e = .returned (.bool (decide (f.I = g.I))) ∧ Below W.heap.size W w') := fun W hW => ids11_any _ _ _ _ _ _ _ _ w.heap.size W (Nat.le_trans (h.i.bd (by decide)) (by decide)) (Nat.le_trans (h'.i.bd (by decide)) (by decide)) hW.size (h.i.reads.below hW) (h'.i.reads.below hW)
  have LX := Lib.hid (listsAt h hb1 hS)
  have LY := Lib.hid (listsAt h' hb1 hT)
  have hxy : ((⟨f.l.toArray⟩ : ByteArray).toList == (⟨g.l.toArray⟩ : ByteArray).toList) = decide (f.l = g.l) := by
    rw [Lib.toList_data, Lib.toList_data, Bool.eq_iff_iff]
    simp
  have hpp : (f.p.toList == g.p.toList) = decide (f.p = g.p) := by
    rw [Bool.eq_iff_iff]
    simp [toL_iff]
  obtain ⟨tx, htx⟩ : ∃ x : ByteArray, x = ⟨f.l.toArray⟩ := ⟨_, rfl⟩
  obtain ⟨ty, hty⟩ : ∃ x : ByteArray, x = ⟨g.l.toArray⟩ := ⟨_, rfl⟩
  rw [← htx] at CX hxy
  rw [← hty] at CY hxy
  obtain ⟨ea, hea⟩ : ∃ x, x = decide (f.L = g.L) := ⟨_, rfl⟩
  obtain ⟨ei, hei⟩ : ∃ x, x = decide (f.I = g.I) := ⟨_, rfl⟩
  rw [← hea] at CA
  rw [← hei] at CI
  have hsb := hs.bd (by decide)
  have hsl := hs.len
  have hsl' := hs'.len
  have E1 : Hid (((((((((f.t : Int) != g.t) || (!(f.p.toList == g.p.toList))) || (!(tx.toList == ty.toList))) || (!ea)) || ((f.fl : Int) != g.fl)) || ((f.ve : Int) != g.ve)) || (f.wa != g.wa)) = false ↔ (f.t = g.t ∧ f.p = g.p ∧ f.l = g.l ∧ f.L = g.L ∧ f.fl = g.fl ∧ f.ve = g.ve ∧ f.wa = g.wa)) := by
    unfold Hid
    rw [hxy, hpp, hea]
    simp [and_assoc]
  have E2 : Hid (((((((((f.tl : Int) != g.tl) || ((f.zx : Int) != g.zx)) || ((f.ct : Int) != g.ct)) || ((f.by_ : Int) != g.by_)) || ((f.to : Int) != g.to)) || (!ei)) || (((s.n : Int) : Int) != (s'.n : Int))) = false ↔ (f.tl = g.tl ∧ f.zx = g.zx ∧ f.ct = g.ct ∧ f.by_ = g.by_ ∧ f.to = g.to ∧ f.I = g.I ∧ Q.length = Q'.length)) := by
    unfold Hid
    rw [hei]
    simp only [Bool.or_eq_false_iff, bne_eq_false_iff_eq, Bool.not_eq_false', decide_eq_true_eq, and_assoc, hsl, hsl', Int.ofNat_inj]
  have HS := Lib.hid hS
  have HT := Lib.hid hT
  have HB1 := Lib.hid hb1
  have HH := Lib.hid hs
  have HH' := Lib.hid hs'
  have HQ := Lib.hid hq
  have HQ' := Lib.hid hq'
  have HIH := Lib.hid IH
  have HN1 := Lib.hid N1
  have HN2 := Lib.hid N2
  have HN3 := Lib.hid N3
  have HN4 := Lib.hid N4
  have HY := Lib.hid Y
  have ZO := Lib.hid isz_29
  clear hb1 hS hT h h' hcs hds hxy hpp htx hty hea hei hs hs' hq hq' IH N1 N2 N3 N4 Y hsl hsl'
  go_enter Tryz.func15, Tryz.ntmps15
  iterate 18 go_step
  obtain ⟨x7, H7⟩ : ∃ x : Value, Hid (x = .pointer (some ⟨w.heap.size, 0, none⟩)) := ⟨_, rfl⟩
  obtain ⟨x8, H8⟩ : ∃ x : Value, Hid (x = .int .i32 f.t) := ⟨_, rfl⟩
  obtain ⟨x9, H9⟩ : ∃ x : Value, Hid (x = .pointer (some ⟨(w.heap.size + 1), 0, none⟩)) := ⟨_, rfl⟩
  obtain ⟨x10, H10⟩ : ∃ x : Value, Hid (x = .int .i32 g.t) := ⟨_, rfl⟩
  obtain ⟨x11, H11⟩ : ∃ x : Value, Hid (x = .bool ((f.t : Int) != g.t)) := ⟨_, rfl⟩
  obtain ⟨x12, H12⟩ : ∃ x : Value, Hid (x = .bool ((f.t : Int) != g.t)) := ⟨_, rfl⟩
  obtain ⟨x13, H13⟩ : ∃ x : Value, Hid (x = bif (((f.t : Int) != g.t) == false) then .pointer (some ⟨w.heap.size, 1, none⟩) else undef) := ⟨_, rfl⟩
  obtain ⟨x14, H14⟩ : ∃ x : Value, Hid (x = bif (((f.t : Int) != g.t) == false) then .string f.p else undef) := ⟨_, rfl⟩
  obtain ⟨x15, H15⟩ : ∃ x : Value, Hid (x = bif (((f.t : Int) != g.t) == false) then .pointer (some ⟨(w.heap.size + 1), 1, none⟩) else undef) := ⟨_, rfl⟩
  obtain ⟨x16, H16⟩ : ∃ x : Value, Hid (x = bif (((f.t : Int) != g.t) == false) then .string g.p else undef) := ⟨_, rfl⟩
  obtain ⟨x17, H17⟩ : ∃ x : Value, Hid (x = bif (((f.t : Int) != g.t) == false) then .bool (!(f.p.toList == g.p.toList)) else undef) := ⟨_, rfl⟩
  obtain ⟨x18, H18⟩ : ∃ x : Value, Hid (x = .bool (((f.t : Int) != g.t) || (!(f.p.toList == g.p.toList)))) := ⟨_, rfl⟩
  obtain ⟨x19, H19⟩ : ∃ x : Value, Hid (x = .bool (((f.t : Int) != g.t) || (!(f.p.toList == g.p.toList)))) := ⟨_, rfl⟩
  obtain ⟨x20, H20⟩ : ∃ x : Value, Hid (x = bif ((((f.t : Int) != g.t) || (!(f.p.toList == g.p.toList))) == false) then .pointer (some ⟨w.heap.size, 2, none⟩) else undef) := ⟨_, rfl⟩
  obtain ⟨x21, H21⟩ : ∃ x : Value, Hid (x = bif ((((f.t : Int) != g.t) || (!(f.p.toList == g.p.toList))) == false) then .slice d.A d.n d.c else undef) := ⟨_, rfl⟩
  obtain ⟨x22, H22⟩ : ∃ x : Value, Hid (x = bif ((((f.t : Int) != g.t) || (!(f.p.toList == g.p.toList))) == false) then .string tx else undef) := ⟨_, rfl⟩
  obtain ⟨x23, H23⟩ : ∃ x : Value, Hid (x = bif ((((f.t : Int) != g.t) || (!(f.p.toList == g.p.toList))) == false) then .pointer (some ⟨(w.heap.size + 1), 2, none⟩) else undef) := ⟨_, rfl⟩
  obtain ⟨x24, H24⟩ : ∃ x : Value, Hid (x = bif ((((f.t : Int) != g.t) || (!(f.p.toList == g.p.toList))) == false) then .slice d'.A d'.n d'.c else undef) := ⟨_, rfl⟩
  obtain ⟨x25, H25⟩ : ∃ x : Value, Hid (x = bif ((((f.t : Int) != g.t) || (!(f.p.toList == g.p.toList))) == false) then .string ty else undef) := ⟨_, rfl⟩
  obtain ⟨x26, H26⟩ : ∃ x : Value, Hid (x = bif ((((f.t : Int) != g.t) || (!(f.p.toList == g.p.toList))) == false) then .bool (!(tx.toList == ty.toList)) else undef) := ⟨_, rfl⟩
  obtain ⟨x27, H27⟩ : ∃ x : Value, Hid (x = .bool ((((f.t : Int) != g.t) || (!(f.p.toList == g.p.toList))) || (!(tx.toList == ty.toList)))) := ⟨_, rfl⟩
  obtain ⟨x28, H28⟩ : ∃ x : Value, Hid (x = .bool ((((f.t : Int) != g.t) || (!(f.p.toList == g.p.toList))) || (!(tx.toList == ty.toList)))) := ⟨_, rfl⟩
  obtain ⟨x29, H29⟩ : ∃ x : Value, Hid (x = bif (((((f.t : Int) != g.t) || (!(f.p.toList == g.p.toList))) || (!(tx.toList == ty.toList))) == false) then .pointer (some ⟨w.heap.size, 3, none⟩) else undef) := ⟨_, rfl⟩
  obtain ⟨x30, H30⟩ : ∃ x : Value, Hid (x = bif (((((f.t : Int) != g.t) || (!(f.p.toList == g.p.toList))) || (!(tx.toList == ty.toList))) == false) then .slice a.A a.n a.c else undef) := ⟨_, rfl⟩
  obtain ⟨x31, H31⟩ : ∃ x : Value, Hid (x = bif (((((f.t : Int) != g.t) || (!(f.p.toList == g.p.toList))) || (!(tx.toList == ty.toList))) == false) then .pointer (some ⟨(w.heap.size + 1), 3, none⟩) else undef) := ⟨_, rfl⟩
  obtain ⟨x32, H32⟩ : ∃ x : Value, Hid (x = bif (((((f.t : Int) != g.t) || (!(f.p.toList == g.p.toList))) || (!(tx.toList == ty.toList))) == false) then .slice a'.A a'.n a'.c else undef) := ⟨_, rfl⟩
  obtain ⟨x33, H33⟩ : ∃ x : Value, Hid (x = bif (((((f.t : Int) != g.t) || (!(f.p.toList == g.p.toList))) || (!(tx.toList == ty.toList))) == false) then .bool ea else undef) := ⟨_, rfl⟩
  obtain ⟨x34, H34⟩ : ∃ x : Value, Hid (x = bif (((((f.t : Int) != g.t) || (!(f.p.toList == g.p.toList))) || (!(tx.toList == ty.toList))) == false) then .bool (!ea) else undef) := ⟨_, rfl⟩
  obtain ⟨x35, H35⟩ : ∃ x : Value, Hid (x = .bool (((((f.t : Int) != g.t) || (!(f.p.toList == g.p.toList))) || (!(tx.toList == ty.toList))) || (!ea))) := ⟨_, rfl⟩
  obtain ⟨x36, H36⟩ : ∃ x : Value, Hid (x = .bool (((((f.t : Int) != g.t) || (!(f.p.toList == g.p.toList))) || (!(tx.toList == ty.toList))) || (!ea))) := ⟨_, rfl⟩
  obtain ⟨x37, H37⟩ : ∃ x : Value, Hid (x = bif ((((((f.t : Int) != g.t) || (!(f.p.toList == g.p.toList))) || (!(tx.toList == ty.toList))) || (!ea)) == false) then .pointer (some ⟨w.heap.size, 4, none⟩) else undef) := ⟨_, rfl⟩
  obtain ⟨x38, H38⟩ : ∃ x : Value, Hid (x = bif ((((((f.t : Int) != g.t) || (!(f.p.toList == g.p.toList))) || (!(tx.toList == ty.toList))) || (!ea)) == false) then .int .i32 f.fl else undef) := ⟨_, rfl⟩
  obtain ⟨x39, H39⟩ : ∃ x : Value, Hid (x = bif ((((((f.t : Int) != g.t) || (!(f.p.toList == g.p.toList))) || (!(tx.toList == ty.toList))) || (!ea)) == false) then .pointer (some ⟨(w.heap.size + 1), 4, none⟩) else undef) := ⟨_, rfl⟩
  obtain ⟨x40, H40⟩ : ∃ x : Value, Hid (x = bif ((((((f.t : Int) != g.t) || (!(f.p.toList == g.p.toList))) || (!(tx.toList == ty.toList))) || (!ea)) == false) then .int .i32 g.fl else undef) := ⟨_, rfl⟩
  obtain ⟨x41, H41⟩ : ∃ x : Value, Hid (x = bif ((((((f.t : Int) != g.t) || (!(f.p.toList == g.p.toList))) || (!(tx.toList == ty.toList))) || (!ea)) == false) then .bool ((f.fl : Int) != g.fl) else undef) := ⟨_, rfl⟩
  obtain ⟨x42, H42⟩ : ∃ x : Value, Hid (x = .bool ((((((f.t : Int) != g.t) || (!(f.p.toList == g.p.toList))) || (!(tx.toList == ty.toList))) || (!ea)) || ((f.fl : Int) != g.fl))) := ⟨_, rfl⟩
  obtain ⟨x43, H43⟩ : ∃ x : Value, Hid (x = .bool ((((((f.t : Int) != g.t) || (!(f.p.toList == g.p.toList))) || (!(tx.toList == ty.toList))) || (!ea)) || ((f.fl : Int) != g.fl))) := ⟨_, rfl⟩
  obtain ⟨x44, H44⟩ : ∃ x : Value, Hid (x = bif (((((((f.t : Int) != g.t) || (!(f.p.toList == g.p.toList))) || (!(tx.toList == ty.toList))) || (!ea)) || ((f.fl : Int) != g.fl)) == false) then .pointer (some ⟨w.heap.size, 5, none⟩) else undef) := ⟨_, rfl⟩
  obtain ⟨x45, H45⟩ : ∃ x : Value, Hid (x = bif (((((((f.t : Int) != g.t) || (!(f.p.toList == g.p.toList))) || (!(tx.toList == ty.toList))) || (!ea)) || ((f.fl : Int) != g.fl)) == false) then .int .i32 f.ve else undef) := ⟨_, rfl⟩
  obtain ⟨x46, H46⟩ : ∃ x : Value, Hid (x = bif (((((((f.t : Int) != g.t) || (!(f.p.toList == g.p.toList))) || (!(tx.toList == ty.toList))) || (!ea)) || ((f.fl : Int) != g.fl)) == false) then .pointer (some ⟨(w.heap.size + 1), 5, none⟩) else undef) := ⟨_, rfl⟩
  obtain ⟨x47, H47⟩ : ∃ x : Value, Hid (x = bif (((((((f.t : Int) != g.t) || (!(f.p.toList == g.p.toList))) || (!(tx.toList == ty.toList))) || (!ea)) || ((f.fl : Int) != g.fl)) == false) then .int .i32 g.ve else undef) := ⟨_, rfl⟩
  obtain ⟨x48, H48⟩ : ∃ x : Value, Hid (x = bif (((((((f.t : Int) != g.t) || (!(f.p.toList == g.p.toList))) || (!(tx.toList == ty.toList))) || (!ea)) || ((f.fl : Int) != g.fl)) == false) then .bool ((f.ve : Int) != g.ve) else undef) := ⟨_, rfl⟩
  obtain ⟨x49, H49⟩ : ∃ x : Value, Hid (x = .bool (((((((f.t : Int) != g.t) || (!(f.p.toList == g.p.toList))) || (!(tx.toList == ty.toList))) || (!ea)) || ((f.fl : Int) != g.fl)) || ((f.ve : Int) != g.ve))) := ⟨_, rfl⟩
  obtain ⟨x50, H50⟩ : ∃ x : Value, Hid (x = .bool (((((((f.t : Int) != g.t) || (!(f.p.toList == g.p.toList))) || (!(tx.toList == ty.toList))) || (!ea)) || ((f.fl : Int) != g.fl)) || ((f.ve : Int) != g.ve))) := ⟨_, rfl⟩
  obtain ⟨x51, H51⟩ : ∃ x : Value, Hid (x = bif ((((((((f.t : Int) != g.t) || (!(f.p.toList == g.p.toList))) || (!(tx.toList == ty.toList))) || (!ea)) || ((f.fl : Int) != g.fl)) || ((f.ve : Int) != g.ve)) == false) then .pointer (some ⟨w.heap.size, 6, none⟩) else undef) := ⟨_, rfl⟩
  obtain ⟨x52, H52⟩ : ∃ x : Value, Hid (x = bif ((((((((f.t : Int) != g.t) || (!(f.p.toList == g.p.toList))) || (!(tx.toList == ty.toList))) || (!ea)) || ((f.fl : Int) != g.fl)) || ((f.ve : Int) != g.ve)) == false) then .bool f.wa else undef) := ⟨_, rfl⟩
  obtain ⟨x53, H53⟩ : ∃ x : Value, Hid (x = bif ((((((((f.t : Int) != g.t) || (!(f.p.toList == g.p.toList))) || (!(tx.toList == ty.toList))) || (!ea)) || ((f.fl : Int) != g.fl)) || ((f.ve : Int) != g.ve)) == false) then .pointer (some ⟨(w.heap.size + 1), 6, none⟩) else undef) := ⟨_, rfl⟩
  obtain ⟨x54, H54⟩ : ∃ x : Value, Hid (x = bif ((((((((f.t : Int) != g.t) || (!(f.p.toList == g.p.toList))) || (!(tx.toList == ty.toList))) || (!ea)) || ((f.fl : Int) != g.fl)) || ((f.ve : Int) != g.ve)) == false) then .bool g.wa else undef) := ⟨_, rfl⟩
  obtain ⟨x55, H55⟩ : ∃ x : Value, Hid (x = bif ((((((((f.t : Int) != g.t) || (!(f.p.toList == g.p.toList))) || (!(tx.toList == ty.toList))) || (!ea)) || ((f.fl : Int) != g.fl)) || ((f.ve : Int) != g.ve)) == false) then .bool (f.wa != g.wa) else undef) := ⟨_, rfl⟩
  refine wpList_seq (w0 := w1) (.inl x7 ::
    .inl x8 ::
    .inl x9 ::
    .inl x10 ::
    .inl x11 ::
    .inl x12 ::
    .inl x13 ::
    .inl x14 ::
    .inl x15 ::
    .inl x16 ::
    .inl x17 ::
    .inl x18 ::
    .inl x19 ::
    .inl x20 ::
    .inl x21 ::
    .inl x22 ::
    .inl x23 ::
    .inl x24 ::
    .inl x25 ::
    .inl x26 ::
    .inl x27 ::
    .inl x28 ::
    .inl x29 ::
    .inl x30 ::
    .inl x31 ::
    .inl x32 ::
    .inl x33 ::
    .inl x34 ::
    .inl x35 ::
    .inl x36 ::
    .inl x37 ::
    .inl x38 ::
    .inl x39 ::
    .inl x40 ::
    .inl x41 ::
    .inl x42 ::
    .inl x43 ::
    .inl x44 ::
    .inl x45 ::
    .inl x46 ::
    .inl x47 ::
    .inl x48 ::
    .inl x49 ::
    .inl x50 ::
    .inl x51 ::
    .inl x52 ::
    .inl x53 ::
    .inl x54 ::
    .inl x55 ::
    .inl (.bool ((((((((f.t : Int) != g.t) || (!(f.p.toList == g.p.toList))) || (!(tx.toList == ty.toList))) || (!ea)) || ((f.fl : Int) != g.fl)) || ((f.ve : Int) != g.ve)) || (f.wa != g.wa))) :: []) rfl (by as_aux_lemma => kernel_rfl) (by as_aux_lemma => kernel_rfl) (nomono rfl) ⟨fun ac W hb hold hdep K hK => op_u (u := .pointer (some ⟨w.heap.size, 0, none⟩)) rfl (r_field 29 _ 0 rfl (eval_tmp ((hold 2 (free_slot (by as_aux_lemma => kernel_rfl))).trans rfl)) Tryz.underlying29 rfl (n := 0) isz_21 rfl) (hK _ _ H7.out.symm (Below.refl _ _)),
    fun ac W hb hold hdep K hK => op_u (u := .int .i32 f.t) rfl (r_load 21 _ rfl (eval_tmp ((dep_val (hdep 0 7 (by decide) rfl)).trans (congrArg some H7.out))) (blk_cell (HS.out.below hb HS.out.lt) 0 rfl) Tryz.underlying21 rfl) (hK _ _ H8.out.symm (Below.refl _ _)),
    fun ac W hb hold hdep K hK => op_u (u := .pointer (some ⟨(w.heap.size + 1), 0, none⟩)) rfl (r_field 29 _ 0 rfl (eval_tmp ((hold 3 (free_slot (by as_aux_lemma => kernel_rfl))).trans rfl)) Tryz.underlying29 rfl (n := 0) isz_21 rfl) (hK _ _ H9.out.symm (Below.refl _ _)),
    fun ac W hb hold hdep K hK => op_u (u := .int .i32 g.t) rfl (r_load 21 _ rfl (eval_tmp ((dep_val (hdep 2 9 (by decide) rfl)).trans (congrArg some H9.out))) (blk_cell (HT.out.below hb HT.out.lt) 0 rfl) Tryz.underlying21 rfl) (hK _ _ H10.out.symm (Below.refl _ _)),
    fun ac W hb hold hdep K hK => op_u (u := .bool ((f.t : Int) != g.t)) rfl (r_ine 21 _ _ _ rfl (eval_tmp ((dep_val (hdep 1 8 (by decide) rfl)).trans (congrArg some H8.out))) (eval_tmp ((dep_val (hdep 3 10 (by decide) rfl)).trans (congrArg some H10.out)))) (hK _ _ H11.out.symm (Below.refl _ _)),
    fun ac W hb hold hdep K hK => op_u (u := .bool ((f.t : Int) != g.t)) rfl (r_move _ rfl (eval_tmp ((dep_val (hdep 4 11 (by decide) rfl)).trans (congrArg some H11.out)))) (hK _ _ H12.out.symm (Below.refl _ _)),
    fun ac W hb hold hdep K hK => op_g (u := .pointer (some ⟨w.heap.size, 1, none⟩)) (want_all rfl rfl ((dep_val (hdep 5 12 (by decide) rfl)).trans (congrArg some H12.out))) (fun hc => r_field 29 _ 1 rfl (eval_tmp ((hold 2 (free_slot (by as_aux_lemma => kernel_rfl))).trans rfl)) Tryz.underlying29 rfl (n := 0) isz_9 rfl) (hK _ _ H13.out.symm (Below.refl _ _)),
    fun ac W hb hold hdep K hK => op_g (u := .string f.p) (want_all rfl rfl ((dep_val (hdep 5 12 (by decide) rfl)).trans (congrArg some H12.out))) (fun hc => r_load 9 _ rfl (eval_if ((dep_val (hdep 6 13 (by decide) rfl)).trans (congrArg some H13.out)) hc) (blk_cell (HS.out.below hb HS.out.lt) 1 rfl) Tryz.underlying9 rfl) (hK _ _ H14.out.symm (Below.refl _ _)),
    fun ac W hb hold hdep K hK => op_g (u := .pointer (some ⟨(w.heap.size + 1), 1, none⟩)) (want_all rfl rfl ((dep_val (hdep 5 12 (by decide) rfl)).trans (congrArg some H12.out))) (fun hc => r_field 29 _ 1 rfl (eval_tmp ((hold 3 (free_slot (by as_aux_lemma => kernel_rfl))).trans rfl)) Tryz.underlying29 rfl (n := 0) isz_9 rfl) (hK _ _ H15.out.symm (Below.refl _ _)),
    fun ac W hb hold hdep K hK => op_g (u := .string g.p) (want_all rfl rfl ((dep_val (hdep 5 12 (by decide) rfl)).trans (congrArg some H12.out))) (fun hc => r_load 9 _ rfl (eval_if ((dep_val (hdep 8 15 (by decide) rfl)).trans (congrArg some H15.out)) hc) (blk_cell (HT.out.below hb HT.out.lt) 1 rfl) Tryz.underlying9 rfl) (hK _ _ H16.out.symm (Below.refl _ _)),
    fun ac W hb hold hdep K hK => op_g (u := .bool (!(f.p.toList == g.p.toList))) (want_all rfl rfl ((dep_val (hdep 5 12 (by decide) rfl)).trans (congrArg some H12.out))) (fun hc => r_sne 9 _ _ _ rfl (eval_if ((dep_val (hdep 7 14 (by decide) rfl)).trans (congrArg some H14.out)) hc) (eval_if ((dep_val (hdep 9 16 (by decide) rfl)).trans (congrArg some H16.out)) hc)) (hK _ _ H17.out.symm (Below.refl _ _)),
    fun ac W hb hold hdep K hK => op_u (u := .bool (((f.t : Int) != g.t) || (!(f.p.toList == g.p.toList)))) rfl (r_or _ _ _ rfl (eval_tmp ((dep_val (hdep 5 12 (by decide) rfl)).trans (congrArg some H12.out))) rfl (fun hb => eval_if ((dep_val (hdep 10 17 (by decide) rfl)).trans (congrArg some H17.out)) (by simp [hb]))) (hK _ _ H18.out.symm (Below.refl _ _)),
    fun ac W hb hold hdep K hK => op_u (u := .bool (((f.t : Int) != g.t) || (!(f.p.toList == g.p.toList)))) rfl (r_move _ rfl (eval_tmp ((dep_val (hdep 11 18 (by decide) rfl)).trans (congrArg some H18.out)))) (hK _ _ H19.out.symm (Below.refl _ _)),
    fun ac W hb hold hdep K hK => op_g (u := .pointer (some ⟨w.heap.size, 2, none⟩)) (want_all rfl rfl ((dep_val (hdep 12 19 (by decide) rfl)).trans (congrArg some H19.out))) (fun hc => r_field 29 _ 2 rfl (eval_tmp ((hold 2 (free_slot (by as_aux_lemma => kernel_rfl))).trans rfl)) Tryz.underlying29 rfl (n := 0) isz_22 rfl) (hK _ _ H20.out.symm (Below.refl _ _)),
    fun ac W hb hold hdep K hK => op_g (u := .slice d.A d.n d.c) (want_all rfl rfl ((dep_val (hdep 12 19 (by decide) rfl)).trans (congrArg some H19.out))) (fun hc => r_load 22 _ rfl (eval_if ((dep_val (hdep 13 20 (by decide) rfl)).trans (congrArg some H20.out)) hc) (blk_cell (HS.out.below hb HS.out.lt) 2 rfl) Tryz.underlying22 rfl) (hK _ _ H21.out.symm (Below.refl _ _)),
    fun ac W hb hold hdep K hK => op_g (u := .string tx) (want_all rfl rfl ((dep_val (hdep 12 19 (by decide) rfl)).trans (congrArg some H19.out))) (fun hc => r_conv 22 9 _ rfl (eval_if ((dep_val (hdep 14 21 (by decide) rfl)).trans (congrArg some H21.out)) hc) (CX.out W (HB1.out.trans (hb.mono HB1.out.size)))) (hK _ _ H22.out.symm (Below.refl _ _)),
    fun ac W hb hold hdep K hK => op_g (u := .pointer (some ⟨(w.heap.size + 1), 2, none⟩)) (want_all rfl rfl ((dep_val (hdep 12 19 (by decide) rfl)).trans (congrArg some H19.out))) (fun hc => r_field 29 _ 2 rfl (eval_tmp ((hold 3 (free_slot (by as_aux_lemma => kernel_rfl))).trans rfl)) Tryz.underlying29 rfl (n := 0) isz_22 rfl) (hK _ _ H23.out.symm (Below.refl _ _)),
    fun ac W hb hold hdep K hK => op_g (u := .slice d'.A d'.n d'.c) (want_all rfl rfl ((dep_val (hdep 12 19 (by decide) rfl)).trans (congrArg some H19.out))) (fun hc => r_load 22 _ rfl (eval_if ((dep_val (hdep 16 23 (by decide) rfl)).trans (congrArg some H23.out)) hc) (blk_cell (HT.out.below hb HT.out.lt) 2 rfl) Tryz.underlying22 rfl) (hK _ _ H24.out.symm (Below.refl _ _)),
    fun ac W hb hold hdep K hK => op_g (u := .string ty) (want_all rfl rfl ((dep_val (hdep 12 19 (by decide) rfl)).trans (congrArg some H19.out))) (fun hc => r_conv 22 9 _ rfl (eval_if ((dep_val (hdep 17 24 (by decide) rfl)).trans (congrArg some H24.out)) hc) (CY.out W (HB1.out.trans (hb.mono HB1.out.size)))) (hK _ _ H25.out.symm (Below.refl _ _)),
    fun ac W hb hold hdep K hK => op_g (u := .bool (!(tx.toList == ty.toList))) (want_all rfl rfl ((dep_val (hdep 12 19 (by decide) rfl)).trans (congrArg some H19.out))) (fun hc => r_sne 9 _ _ _ rfl (eval_if ((dep_val (hdep 15 22 (by decide) rfl)).trans (congrArg some H22.out)) hc) (eval_if ((dep_val (hdep 18 25 (by decide) rfl)).trans (congrArg some H25.out)) hc)) (hK _ _ H26.out.symm (Below.refl _ _)),
    fun ac W hb hold hdep K hK => op_u (u := .bool ((((f.t : Int) != g.t) || (!(f.p.toList == g.p.toList))) || (!(tx.toList == ty.toList)))) rfl (r_or _ _ _ rfl (eval_tmp ((dep_val (hdep 12 19 (by decide) rfl)).trans (congrArg some H19.out))) rfl (fun hb => eval_if ((dep_val (hdep 19 26 (by decide) rfl)).trans (congrArg some H26.out)) (by simp [hb]))) (hK _ _ H27.out.symm (Below.refl _ _)),
    fun ac W hb hold hdep K hK => op_u (u := .bool ((((f.t : Int) != g.t) || (!(f.p.toList == g.p.toList))) || (!(tx.toList == ty.toList)))) rfl (r_move _ rfl (eval_tmp ((dep_val (hdep 20 27 (by decide) rfl)).trans (congrArg some H27.out)))) (hK _ _ H28.out.symm (Below.refl _ _)),
    fun ac W hb hold hdep K hK => op_g (u := .pointer (some ⟨w.heap.size, 3, none⟩)) (want_all rfl rfl ((dep_val (hdep 21 28 (by decide) rfl)).trans (congrArg some H28.out))) (fun hc => r_field 29 _ 3 rfl (eval_tmp ((hold 2 (free_slot (by as_aux_lemma => kernel_rfl))).trans rfl)) Tryz.underlying29 rfl (n := 0) isz_23 rfl) (hK _ _ H29.out.symm (Below.refl _ _)),
    fun ac W hb hold hdep K hK => op_g (u := .slice a.A a.n a.c) (want_all rfl rfl ((dep_val (hdep 21 28 (by decide) rfl)).trans (congrArg some H28.out))) (fun hc => r_load 23 _ rfl (eval_if ((dep_val (hdep 22 29 (by decide) rfl)).trans (congrArg some H29.out)) hc) (blk_cell (HS.out.below hb HS.out.lt) 3 rfl) Tryz.underlying23 rfl) (hK _ _ H30.out.symm (Below.refl _ _)),
    fun ac W hb hold hdep K hK => op_g (u := .pointer (some ⟨(w.heap.size + 1), 3, none⟩)) (want_all rfl rfl ((dep_val (hdep 21 28 (by decide) rfl)).trans (congrArg some H28.out))) (fun hc => r_field 29 _ 3 rfl (eval_tmp ((hold 3 (free_slot (by as_aux_lemma => kernel_rfl))).trans rfl)) Tryz.underlying29 rfl (n := 0) isz_23 rfl) (hK _ _ H31.out.symm (Below.refl _ _)),
    fun ac W hb hold hdep K hK => op_g (u := .slice a'.A a'.n a'.c) (want_all rfl rfl ((dep_val (hdep 21 28 (by decide) rfl)).trans (congrArg some H28.out))) (fun hc => r_load 23 _ rfl (eval_if ((dep_val (hdep 24 31 (by decide) rfl)).trans (congrArg some H31.out)) hc) (blk_cell (HT.out.below hb HT.out.lt) 3 rfl) Tryz.underlying23 rfl) (hK _ _ H32.out.symm (Below.refl _ _)),
    fun ac W hb hold hdep K hK => op_call (u := .bool ea) (want_all rfl rfl ((dep_val (hdep 21 28 (by decide) rfl)).trans (congrArg some H28.out))) 35 _ _ rfl (#[.slice a.A a.n a.c, .slice a'.A a'.n a'.c]) (fun hc => by simp [(eval_if ((dep_val (hdep 23 30 (by decide) rfl)).trans (congrArg some H30.out)) hc), (eval_if ((dep_val (hdep 25 32 (by decide) rfl)).trans (congrArg some H32.out)) hc)]) Tryz.func35 (by as_aux_lemma => kernel_rfl) (by as_aux_lemma => kernel_rfl) (fun hc => CA.out W (HB1.out.trans (hb.mono HB1.out.size))) (fun w' hbl => hK _ _ H33.out.symm hbl),
    fun ac W hb hold hdep K hK => op_g (u := .bool (!ea)) (want_all rfl rfl ((dep_val (hdep 21 28 (by decide) rfl)).trans (congrArg some H28.out))) (fun hc => r_not _ _ rfl (eval_if ((dep_val (hdep 26 33 (by decide) rfl)).trans (congrArg some H33.out)) hc)) (hK _ _ H34.out.symm (Below.refl _ _)),
    fun ac W hb hold hdep K hK => op_u (u := .bool (((((f.t : Int) != g.t) || (!(f.p.toList == g.p.toList))) || (!(tx.toList == ty.toList))) || (!ea))) rfl (r_or _ _ _ rfl (eval_tmp ((dep_val (hdep 21 28 (by decide) rfl)).trans (congrArg some H28.out))) rfl (fun hb => eval_if ((dep_val (hdep 27 34 (by decide) rfl)).trans (congrArg some H34.out)) (by simp [hb]))) (hK _ _ H35.out.symm (Below.refl _ _)),
    fun ac W hb hold hdep K hK => op_u (u := .bool (((((f.t : Int) != g.t) || (!(f.p.toList == g.p.toList))) || (!(tx.toList == ty.toList))) || (!ea))) rfl (r_move _ rfl (eval_tmp ((dep_val (hdep 28 35 (by decide) rfl)).trans (congrArg some H35.out)))) (hK _ _ H36.out.symm (Below.refl _ _)),
    fun ac W hb hold hdep K hK => op_g (u := .pointer (some ⟨w.heap.size, 4, none⟩)) (want_all rfl rfl ((dep_val (hdep 29 36 (by decide) rfl)).trans (congrArg some H36.out))) (fun hc => r_field 29 _ 4 rfl (eval_tmp ((hold 2 (free_slot (by as_aux_lemma => kernel_rfl))).trans rfl)) Tryz.underlying29 rfl (n := 0) isz_21 rfl) (hK _ _ H37.out.symm (Below.refl _ _)),
    fun ac W hb hold hdep K hK => op_g (u := .int .i32 f.fl) (want_all rfl rfl ((dep_val (hdep 29 36 (by decide) rfl)).trans (congrArg some H36.out))) (fun hc => r_load 21 _ rfl (eval_if ((dep_val (hdep 30 37 (by decide) rfl)).trans (congrArg some H37.out)) hc) (blk_cell (HS.out.below hb HS.out.lt) 4 rfl) Tryz.underlying21 rfl) (hK _ _ H38.out.symm (Below.refl _ _)),
    fun ac W hb hold hdep K hK => op_g (u := .pointer (some ⟨(w.heap.size + 1), 4, none⟩)) (want_all rfl rfl ((dep_val (hdep 29 36 (by decide) rfl)).trans (congrArg some H36.out))) (fun hc => r_field 29 _ 4 rfl (eval_tmp ((hold 3 (free_slot (by as_aux_lemma => kernel_rfl))).trans rfl)) Tryz.underlying29 rfl (n := 0) isz_21 rfl) (hK _ _ H39.out.symm (Below.refl _ _)),
    fun ac W hb hold hdep K hK => op_g (u := .int .i32 g.fl) (want_all rfl rfl ((dep_val (hdep 29 36 (by decide) rfl)).trans (congrArg some H36.out))) (fun hc => r_load 21 _ rfl (eval_if ((dep_val (hdep 32 39 (by decide) rfl)).trans (congrArg some H39.out)) hc) (blk_cell (HT.out.below hb HT.out.lt) 4 rfl) Tryz.underlying21 rfl) (hK _ _ H40.out.symm (Below.refl _ _)),
    fun ac W hb hold hdep K hK => op_g (u := .bool ((f.fl : Int) != g.fl)) (want_all rfl rfl ((dep_val (hdep 29 36 (by decide) rfl)).trans (congrArg some H36.out))) (fun hc => r_ine 21 _ _ _ rfl (eval_if ((dep_val (hdep 31 38 (by decide) rfl)).trans (congrArg some H38.out)) hc) (eval_if ((dep_val (hdep 33 40 (by decide) rfl)).trans (congrArg some H40.out)) hc)) (hK _ _ H41.out.symm (Below.refl _ _)),
    fun ac W hb hold hdep K hK => op_u (u := .bool ((((((f.t : Int) != g.t) || (!(f.p.toList == g.p.toList))) || (!(tx.toList == ty.toList))) || (!ea)) || ((f.fl : Int) != g.fl))) rfl (r_or _ _ _ rfl (eval_tmp ((dep_val (hdep 29 36 (by decide) rfl)).trans (congrArg some H36.out))) rfl (fun hb => eval_if ((dep_val (hdep 34 41 (by decide) rfl)).trans (congrArg some H41.out)) (by simp [hb]))) (hK _ _ H42.out.symm (Below.refl _ _)),
    fun ac W hb hold hdep K hK => op_u (u := .bool ((((((f.t : Int) != g.t) || (!(f.p.toList == g.p.toList))) || (!(tx.toList == ty.toList))) || (!ea)) || ((f.fl : Int) != g.fl))) rfl (r_move _ rfl (eval_tmp ((dep_val (hdep 35 42 (by decide) rfl)).trans (congrArg some H42.out)))) (hK _ _ H43.out.symm (Below.refl _ _)),
    fun ac W hb hold hdep K hK => op_g (u := .pointer (some ⟨w.heap.size, 5, none⟩)) (want_all rfl rfl ((dep_val (hdep 36 43 (by decide) rfl)).trans (congrArg some H43.out))) (fun hc => r_field 29 _ 5 rfl (eval_tmp ((hold 2 (free_slot (by as_aux_lemma => kernel_rfl))).trans rfl)) Tryz.underlying29 rfl (n := 0) isz_21 rfl) (hK _ _ H44.out.symm (Below.refl _ _)),
    fun ac W hb hold hdep K hK => op_g (u := .int .i32 f.ve) (want_all rfl rfl ((dep_val (hdep 36 43 (by decide) rfl)).trans (congrArg some H43.out))) (fun hc => r_load 21 _ rfl (eval_if ((dep_val (hdep 37 44 (by decide) rfl)).trans (congrArg some H44.out)) hc) (blk_cell (HS.out.below hb HS.out.lt) 5 rfl) Tryz.underlying21 rfl) (hK _ _ H45.out.symm (Below.refl _ _)),
    fun ac W hb hold hdep K hK => op_g (u := .pointer (some ⟨(w.heap.size + 1), 5, none⟩)) (want_all rfl rfl ((dep_val (hdep 36 43 (by decide) rfl)).trans (congrArg some H43.out))) (fun hc => r_field 29 _ 5 rfl (eval_tmp ((hold 3 (free_slot (by as_aux_lemma => kernel_rfl))).trans rfl)) Tryz.underlying29 rfl (n := 0) isz_21 rfl) (hK _ _ H46.out.symm (Below.refl _ _)),
    fun ac W hb hold hdep K hK => op_g (u := .int .i32 g.ve) (want_all rfl rfl ((dep_val (hdep 36 43 (by decide) rfl)).trans (congrArg some H43.out))) (fun hc => r_load 21 _ rfl (eval_if ((dep_val (hdep 39 46 (by decide) rfl)).trans (congrArg some H46.out)) hc) (blk_cell (HT.out.below hb HT.out.lt) 5 rfl) Tryz.underlying21 rfl) (hK _ _ H47.out.symm (Below.refl _ _)),
    fun ac W hb hold hdep K hK => op_g (u := .bool ((f.ve : Int) != g.ve)) (want_all rfl rfl ((dep_val (hdep 36 43 (by decide) rfl)).trans (congrArg some H43.out))) (fun hc => r_ine 21 _ _ _ rfl (eval_if ((dep_val (hdep 38 45 (by decide) rfl)).trans (congrArg some H45.out)) hc) (eval_if ((dep_val (hdep 40 47 (by decide) rfl)).trans (congrArg some H47.out)) hc)) (hK _ _ H48.out.symm (Below.refl _ _)),
    fun ac W hb hold hdep K hK => op_u (u := .bool (((((((f.t : Int) != g.t) || (!(f.p.toList == g.p.toList))) || (!(tx.toList == ty.toList))) || (!ea)) || ((f.fl : Int) != g.fl)) || ((f.ve : Int) != g.ve))) rfl (r_or _ _ _ rfl (eval_tmp ((dep_val (hdep 36 43 (by decide) rfl)).trans (congrArg some H43.out))) rfl (fun hb => eval_if ((dep_val (hdep 41 48 (by decide) rfl)).trans (congrArg some H48.out)) (by simp [hb]))) (hK _ _ H49.out.symm (Below.refl _ _)),
    fun ac W hb hold hdep K hK => op_u (u := .bool (((((((f.t : Int) != g.t) || (!(f.p.toList == g.p.toList))) || (!(tx.toList == ty.toList))) || (!ea)) || ((f.fl : Int) != g.fl)) || ((f.ve : Int) != g.ve))) rfl (r_move _ rfl (eval_tmp ((dep_val (hdep 42 49 (by decide) rfl)).trans (congrArg some H49.out)))) (hK _ _ H50.out.symm (Below.refl _ _)),
    fun ac W hb hold hdep K hK => op_g (u := .pointer (some ⟨w.heap.size, 6, none⟩)) (want_all rfl rfl ((dep_val (hdep 43 50 (by decide) rfl)).trans (congrArg some H50.out))) (fun hc => r_field 29 _ 6 rfl (eval_tmp ((hold 2 (free_slot (by as_aux_lemma => kernel_rfl))).trans rfl)) Tryz.underlying29 rfl (n := 0) isz_4 rfl) (hK _ _ H51.out.symm (Below.refl _ _)),
    fun ac W hb hold hdep K hK => op_g (u := .bool f.wa) (want_all rfl rfl ((dep_val (hdep 43 50 (by decide) rfl)).trans (congrArg some H50.out))) (fun hc => r_load 4 _ rfl (eval_if ((dep_val (hdep 44 51 (by decide) rfl)).trans (congrArg some H51.out)) hc) (blk_cell (HS.out.below hb HS.out.lt) 6 rfl) Tryz.underlying4 rfl) (hK _ _ H52.out.symm (Below.refl _ _)),
    fun ac W hb hold hdep K hK => op_g (u := .pointer (some ⟨(w.heap.size + 1), 6, none⟩)) (want_all rfl rfl ((dep_val (hdep 43 50 (by decide) rfl)).trans (congrArg some H50.out))) (fun hc => r_field 29 _ 6 rfl (eval_tmp ((hold 3 (free_slot (by as_aux_lemma => kernel_rfl))).trans rfl)) Tryz.underlying29 rfl (n := 0) isz_4 rfl) (hK _ _ H53.out.symm (Below.refl _ _)),
    fun ac W hb hold hdep K hK => op_g (u := .bool g.wa) (want_all rfl rfl ((dep_val (hdep 43 50 (by decide) rfl)).trans (congrArg some H50.out))) (fun hc => r_load 4 _ rfl (eval_if ((dep_val (hdep 46 53 (by decide) rfl)).trans (congrArg some H53.out)) hc) (blk_cell (HT.out.below hb HT.out.lt) 6 rfl) Tryz.underlying4 rfl) (hK _ _ H54.out.symm (Below.refl _ _)),
    fun ac W hb hold hdep K hK => op_g (u := .bool (f.wa != g.wa)) (want_all rfl rfl ((dep_val (hdep 43 50 (by decide) rfl)).trans (congrArg some H50.out))) (fun hc => r_bne 4 _ _ _ rfl Tryz.underlying4 (eval_if ((dep_val (hdep 45 52 (by decide) rfl)).trans (congrArg some H52.out)) hc) (eval_if ((dep_val (hdep 47 54 (by decide) rfl)).trans (congrArg some H54.out)) hc)) (hK _ _ H55.out.symm (Below.refl _ _)),
    fun ac W hb hold hdep K hK => op_u (u := .bool ((((((((f.t : Int) != g.t) || (!(f.p.toList == g.p.toList))) || (!(tx.toList == ty.toList))) || (!ea)) || ((f.fl : Int) != g.fl)) || ((f.ve : Int) != g.ve)) || (f.wa != g.wa))) rfl (r_or _ _ _ rfl (eval_tmp ((dep_val (hdep 43 50 (by decide) rfl)).trans (congrArg some H50.out))) rfl (fun hb => eval_if ((dep_val (hdep 48 55 (by decide) rfl)).trans (congrArg some H55.out)) (by simp [hb]))) (hK _ _ rfl (Below.refl _ _)), trivial⟩ ?_
  intro w2 hb2
  simp only [Fin, Act.put, List.setIfInBounds_toArray, List.set_cons_zero, List.set_cons_succ]
  clear H7 H8 H9 H10 H11 H12 H13 H14 H15 H16 H17 H18 H19 H20 H21 H22 H23 H24 H25 H26 H27 H28 H29 H30 H31 H32 H33 H34 H35 H36 H37 H38 H39 H40 H41 H42 H43 H44 H45 H46 H47 H48 H49 H50 H51 H52 H53 H54 H55
  cases hq1 : ((((((((f.t : Int) != g.t) || (!(f.p.toList == g.p.toList))) || (!(tx.toList == ty.toList))) || (!ea)) || ((f.fl : Int) != g.fl)) || ((f.ve : Int) != g.ve)) || (f.wa != g.wa))
  rotate_left
  · have hbf : b = false := HN1.out fun e => by
      rw [E1.out.2 e] at hq1
      cases hq1
    have HB2 := Lib.hid (HB1.out.trans (hb2.mono HB1.out.size))
    subst hbf
    clear hq1 hb2 E1 E2
    go_wp2
    go_ret
    exact ⟨rfl, HB2.out⟩
  have HP1 := Lib.hid (E1.out.1 hq1)
  have HB2 := Lib.hid hb2
  clear hq1 hb2
  go_wp2
  go_loopw [5] (fun k' wr => ∃ k : Nat, k ≤ 5 ∧ k' = .int .i64 k ∧ Hid (∀ z, z < k → ∀ h : z < 5, (f.lists[z]'h) = (g.lists[z]'h)) ∧ Below w1.heap.size w1 wr) (fun k' _ => 5 - (intOf k').toNat)
  case atStart => exact ⟨0, by omega, rfl, (by intro z hz; omega), HB2.out⟩
  case round =>
    clear HB2
    obtain ⟨k, hk, rfl, HK, hbr⟩ := hrel
    have HBr := Lib.hid (HB1.out.trans (hbr.mono HB1.out.size))
    have HSr := Lib.hid (HS.out.below hbr HS.out.lt)
    have HTr := Lib.hid (HT.out.below hbr HT.out.lt)
    by_cases hlt : k < 5
    · have lx := LX.out.below hbr HB1.out.size HS.out.lt
      have ly := LY.out.below hbr HB1.out.size HT.out.lt
      have e1 := lx.cell k hlt
      have e2 := ly.cell k hlt
      have r1 := lx.reads k hlt
      have r2 := ly.reads k hlt
      have b1 := lx.bd k hlt
      have b2 := ly.bd k hlt
      have hf1 : (f.lists[k]'hlt) = ([(k0, f.K0), (k1, f.K1), (k2, f.K2), (k3, f.K3), (k4, f.K4)][k]'hlt).2 := by
        rcases (by omega : k = 0 ∨ k = 1 ∨ k = 2 ∨ k = 3 ∨ k = 4) with rfl | rfl | rfl | rfl | rfl <;> rfl
      have hf2 : (g.lists[k]'hlt) = ([(k0', g.K0), (k1', g.K1), (k2', g.K2), (k3', g.K3), (k4', g.K4)][k]'hlt).2 := by
        rcases (by omega : k = 0 ∨ k = 1 ∨ k = 2 ∨ k = 3 ∨ k = 4) with rfl | rfl | rfl | rfl | rfl <;> rfl
      obtain ⟨⟨⟨A1, n1, c1⟩, L1⟩, q1⟩ : ∃ q, q = [(k0, f.K0), (k1, f.K1), (k2, f.K2), (k3, f.K3), (k4, f.K4)][k]'hlt := ⟨_, rfl⟩
      obtain ⟨⟨⟨A2, n2, c2⟩, L2⟩, q2⟩ : ∃ q, q = [(k0', g.K0), (k1', g.K1), (k2', g.K2), (k3', g.K3), (k4', g.K4)][k]'hlt := ⟨_, rfl⟩
      rw [← q1] at e1 r1 b1 hf1
      rw [← q2] at e2 r2 b2 hf2
      unfold Sl.v at e1 e2
      dsimp only at e1 e2 r1 r2 b1 b2 hf1 hf2
      have CE1 : Hid (∀ {W}, Below wr.heap.size wr W → W.cell? ((⟨w.heap.size, 11, none⟩ : Addr).add (k * 1)) = some (.slice A1 n1 c1)) := fun {W} hW => by
        rw [Go.WideShapes.add_plain, Nat.mul_one]
        exact (hW.cell (p := ⟨w.heap.size, 11 + k, none⟩) HSr.out.lt).trans e1
      have CE2 : Hid (∀ {W}, Below wr.heap.size wr W → W.cell? ((⟨(w.heap.size + 1), 11, none⟩ : Addr).add (k * 1)) = some (.slice A2 n2 c2)) := fun {W} hW => by
        rw [Go.WideShapes.add_plain, Nat.mul_one]
        exact (hW.cell (p := ⟨w.heap.size + 1, 11 + k, none⟩) HTr.out.lt).trans e2
      have CK : Hid (∀ W, Below wr.heap.size wr W → Calls Tryz.prog 36 #[.slice A1 n1 c1, .slice A2 n2 c2] W fun e w' => e = .returned (.bool (decide (L1 = L2))) ∧ Below W.heap.size W w') := fun W hW =>
        texts11_any A1 A2 n1 n2 c1 c2 L1 L2 w.heap.size W (by omega) (by omega) (Nat.le_trans HBr.out.size hW.size) (r1.below (hW.mono HBr.out.size)) (r2.below (hW.mono HBr.out.size))
      obtain ⟨ek, hek⟩ : ∃ x, x = decide (L1 = L2) := ⟨_, rfl⟩
      rw [← hek] at CK
      have HEK : Hid (ek = true ↔ (f.lists[k]'hlt) = (g.lists[k]'hlt)) := by unfold Hid; rw [hek, hf1, hf2]; simp
      have HBK := Lib.hid hbr
      clear e1 e2 r1 r2 b1 b2 hf1 hf2 q1 q2 lx ly hek hbr
      go_wp2_with (fail)
      obtain ⟨x61, H61⟩ : ∃ x : Value, Hid (x = .int .i64 (k : Int)) := ⟨_, rfl⟩
      obtain ⟨x62, H62⟩ : ∃ x : Value, Hid (x = .pointer (some ⟨w.heap.size, 11, none⟩)) := ⟨_, rfl⟩
      obtain ⟨x63, H63⟩ : ∃ x : Value, Hid (x = .pointer (some ((⟨w.heap.size, 11, none⟩ : Addr).add (k * 1)))) := ⟨_, rfl⟩
      obtain ⟨x64, H64⟩ : ∃ x : Value, Hid (x = .slice A1 n1 c1) := ⟨_, rfl⟩
      obtain ⟨x65, H65⟩ : ∃ x : Value, Hid (x = .int .i64 (k : Int)) := ⟨_, rfl⟩
      obtain ⟨x66, H66⟩ : ∃ x : Value, Hid (x = .pointer (some ⟨(w.heap.size + 1), 11, none⟩)) := ⟨_, rfl⟩
      obtain ⟨x67, H67⟩ : ∃ x : Value, Hid (x = .pointer (some ((⟨(w.heap.size + 1), 11, none⟩ : Addr).add (k * 1)))) := ⟨_, rfl⟩
      obtain ⟨x68, H68⟩ : ∃ x : Value, Hid (x = .slice A2 n2 c2) := ⟨_, rfl⟩
      obtain ⟨x69, H69⟩ : ∃ x : Value, Hid (x = .bool ek) := ⟨_, rfl⟩
      refine wp_region_ord (w0 := wr) (.inl x61 ::
    .inl x62 ::
    .inl x63 ::
    .inl x64 ::
    .inl x65 ::
    .inl x66 ::
    .inl x67 ::
    .inl x68 ::
    .inl x69 ::
    .inl (.bool (!ek)) :: []) rfl (by as_aux_lemma => kernel_rfl) (by as_aux_lemma => kernel_rfl) (by as_aux_lemma => kernel_rfl) (by as_aux_lemma => kernel_rfl) (nomono rfl) ⟨fun ac W hb hold hdep K hK => op_u (u := .int .i64 (k : Int)) rfl (r_move _ rfl (eval_tmp ((hold 5 (free_slot (by as_aux_lemma => kernel_rfl))).trans rfl))) (hK _ _ H61.out.symm (Below.refl _ _)),
        fun ac W hb hold hdep K hK => op_u (u := .pointer (some ⟨w.heap.size, 11, none⟩)) rfl (r_field 29 _ 11 rfl (eval_tmp ((hold 2 (free_slot (by as_aux_lemma => kernel_rfl))).trans rfl)) Tryz.underlying29 rfl (n := 4) isz_25 rfl) (hK _ _ H62.out.symm (Below.refl _ _)),
        fun ac W hb hold hdep K hK => op_u (u := .pointer (some ((⟨w.heap.size, 11, none⟩ : Addr).add (k * 1)))) rfl (r_indexA 25 _ _ rfl (eval_tmp ((dep_val (hdep ⟨1, .data⟩ (by simp) rfl 62 rfl)).trans (congrArg some H62.out))) (eval_tmp ((dep_val (hdep ⟨0, .data⟩ (by simp) rfl 61 rfl)).trans (congrArg some H61.out))) hlt Tryz.underlying25 isz_24 rfl) (hK _ _ H63.out.symm (Below.refl _ _)),
        fun ac W hb hold hdep K hK => op_u (u := .slice A1 n1 c1) rfl (r_load 24 _ rfl (eval_tmp ((dep_val (hdep ⟨2, .data⟩ (by simp) rfl 63 rfl)).trans (congrArg some H63.out))) (CE1.out hb) Tryz.underlying24 rfl) (hK _ _ H64.out.symm (Below.refl _ _)),
        fun ac W hb hold hdep K hK => op_u (u := .int .i64 (k : Int)) rfl (r_move _ rfl (eval_tmp ((hold 5 (free_slot (by as_aux_lemma => kernel_rfl))).trans rfl))) (hK _ _ H65.out.symm (Below.refl _ _)),
        fun ac W hb hold hdep K hK => op_u (u := .pointer (some ⟨(w.heap.size + 1), 11, none⟩)) rfl (r_field 29 _ 11 rfl (eval_tmp ((hold 3 (free_slot (by as_aux_lemma => kernel_rfl))).trans rfl)) Tryz.underlying29 rfl (n := 4) isz_25 rfl) (hK _ _ H66.out.symm (Below.refl _ _)),
        fun ac W hb hold hdep K hK => op_u (u := .pointer (some ((⟨(w.heap.size + 1), 11, none⟩ : Addr).add (k * 1)))) rfl (r_indexA 25 _ _ rfl (eval_tmp ((dep_val (hdep ⟨5, .data⟩ (by simp) rfl 66 rfl)).trans (congrArg some H66.out))) (eval_tmp ((dep_val (hdep ⟨4, .data⟩ (by simp) rfl 65 rfl)).trans (congrArg some H65.out))) hlt Tryz.underlying25 isz_24 rfl) (hK _ _ H67.out.symm (Below.refl _ _)),
        fun ac W hb hold hdep K hK => op_u (u := .slice A2 n2 c2) rfl (r_load 24 _ rfl (eval_tmp ((dep_val (hdep ⟨6, .data⟩ (by simp) rfl 67 rfl)).trans (congrArg some H67.out))) (CE2.out hb) Tryz.underlying24 rfl) (hK _ _ H68.out.symm (Below.refl _ _)),
        fun ac W hb hold hdep K hK => op_call (u := .bool ek) (c := true) (want_free rfl) 36 _ _ rfl (#[.slice A1 n1 c1, .slice A2 n2 c2]) (fun hc => by simp [(eval_tmp ((dep_val (hdep ⟨3, .data⟩ (by simp) rfl 64 rfl)).trans (congrArg some H64.out))), (eval_tmp ((dep_val (hdep ⟨7, .data⟩ (by simp) rfl 68 rfl)).trans (congrArg some H68.out)))]) Tryz.func36 (by as_aux_lemma => kernel_rfl) (by as_aux_lemma => kernel_rfl) (fun hc => CK.out W hb) (fun w' hbl => hK _ _ H69.out.symm hbl),
        fun ac W hb hold hdep K hK => op_u (u := .bool (!ek)) rfl (r_not _ _ rfl (eval_tmp ((dep_val (hdep ⟨8, .data⟩ (by simp) rfl 69 rfl)).trans (congrArg some H69.out)))) (hK _ _ rfl (Below.refl _ _)), trivial⟩ ?_
      intro w3 hb3
      simp only [Fin, Act.put, List.setIfInBounds_toArray, List.set_cons_zero, List.set_cons_succ]
      clear H61 H62 H63 H64 H65 H66 H67 H68 H69
      have HB3 := Lib.hid (HBr.out.trans (hb3.mono HBr.out.size))
      have HB4 := Lib.hid (HBK.out.trans (hb3.mono HBK.out.size))
      clear hb3
      cases ek
      · have hbf : b = false := HN3.out k hlt fun e => by have := HEK.out.2 e; cases this
        subst hbf
        go_wp2
        go_ret
        exact ⟨rfl, HB3.out⟩
      · have HK2 : Hid (∀ z, z < k + 1 → ∀ h : z < 5, (f.lists[z]'h) = (g.lists[z]'h)) := fun z hz hz5 => by
          rcases (by omega : z < k ∨ z = k) with hz | rfl
          · exact HK.out z hz hz5
          · exact HEK.out.1 rfl
        clear HEK HK
        go_wp2
        go_roundw
        case rel => exact ⟨k + 1, by omega, by go_num, HK2, HB4.out⟩
        case measure => simp [intOf]; omega
    · have HALL : Hid (∀ z (h : z < 5), (f.lists[z]'h) = (g.lists[z]'h)) := fun z hz => HK.out z (by omega) hz
      have HBK := Lib.hid hbr
      clear HK hbr
      iterate 22 go_step
      obtain ⟨x71, H71⟩ : ∃ x : Value, Hid (x = .pointer (some ⟨w.heap.size, 9, none⟩)) := ⟨_, rfl⟩
      obtain ⟨x72, H72⟩ : ∃ x : Value, Hid (x = .int .i64 f.tl) := ⟨_, rfl⟩
      obtain ⟨x73, H73⟩ : ∃ x : Value, Hid (x = .pointer (some ⟨(w.heap.size + 1), 9, none⟩)) := ⟨_, rfl⟩
      obtain ⟨x74, H74⟩ : ∃ x : Value, Hid (x = .int .i64 g.tl) := ⟨_, rfl⟩
      obtain ⟨x75, H75⟩ : ∃ x : Value, Hid (x = .bool ((f.tl : Int) != g.tl)) := ⟨_, rfl⟩
      obtain ⟨x76, H76⟩ : ∃ x : Value, Hid (x = .bool ((f.tl : Int) != g.tl)) := ⟨_, rfl⟩
      obtain ⟨x77, H77⟩ : ∃ x : Value, Hid (x = bif (((f.tl : Int) != g.tl) == false) then .pointer (some ⟨w.heap.size, 10, none⟩) else undef) := ⟨_, rfl⟩
      obtain ⟨x78, H78⟩ : ∃ x : Value, Hid (x = bif (((f.tl : Int) != g.tl) == false) then .int .i64 f.zx else undef) := ⟨_, rfl⟩
      obtain ⟨x79, H79⟩ : ∃ x : Value, Hid (x = bif (((f.tl : Int) != g.tl) == false) then .pointer (some ⟨(w.heap.size + 1), 10, none⟩) else undef) := ⟨_, rfl⟩
      obtain ⟨x80, H80⟩ : ∃ x : Value, Hid (x = bif (((f.tl : Int) != g.tl) == false) then .int .i64 g.zx else undef) := ⟨_, rfl⟩
      obtain ⟨x81, H81⟩ : ∃ x : Value, Hid (x = bif (((f.tl : Int) != g.tl) == false) then .bool ((f.zx : Int) != g.zx) else undef) := ⟨_, rfl⟩
      obtain ⟨x82, H82⟩ : ∃ x : Value, Hid (x = .bool (((f.tl : Int) != g.tl) || ((f.zx : Int) != g.zx))) := ⟨_, rfl⟩
      obtain ⟨x83, H83⟩ : ∃ x : Value, Hid (x = .bool (((f.tl : Int) != g.tl) || ((f.zx : Int) != g.zx))) := ⟨_, rfl⟩
      obtain ⟨x84, H84⟩ : ∃ x : Value, Hid (x = bif ((((f.tl : Int) != g.tl) || ((f.zx : Int) != g.zx)) == false) then .pointer (some ⟨w.heap.size, 7, none⟩) else undef) := ⟨_, rfl⟩
      obtain ⟨x85, H85⟩ : ∃ x : Value, Hid (x = bif ((((f.tl : Int) != g.tl) || ((f.zx : Int) != g.zx)) == false) then .int .i64 f.ct else undef) := ⟨_, rfl⟩
      obtain ⟨x86, H86⟩ : ∃ x : Value, Hid (x = bif ((((f.tl : Int) != g.tl) || ((f.zx : Int) != g.zx)) == false) then .pointer (some ⟨(w.heap.size + 1), 7, none⟩) else undef) := ⟨_, rfl⟩
      obtain ⟨x87, H87⟩ : ∃ x : Value, Hid (x = bif ((((f.tl : Int) != g.tl) || ((f.zx : Int) != g.zx)) == false) then .int .i64 g.ct else undef) := ⟨_, rfl⟩
      obtain ⟨x88, H88⟩ : ∃ x : Value, Hid (x = bif ((((f.tl : Int) != g.tl) || ((f.zx : Int) != g.zx)) == false) then .bool ((f.ct : Int) != g.ct) else undef) := ⟨_, rfl⟩
      obtain ⟨x89, H89⟩ : ∃ x : Value, Hid (x = .bool ((((f.tl : Int) != g.tl) || ((f.zx : Int) != g.zx)) || ((f.ct : Int) != g.ct))) := ⟨_, rfl⟩
      obtain ⟨x90, H90⟩ : ∃ x : Value, Hid (x = .bool ((((f.tl : Int) != g.tl) || ((f.zx : Int) != g.zx)) || ((f.ct : Int) != g.ct))) := ⟨_, rfl⟩
      obtain ⟨x91, H91⟩ : ∃ x : Value, Hid (x = bif (((((f.tl : Int) != g.tl) || ((f.zx : Int) != g.zx)) || ((f.ct : Int) != g.ct)) == false) then .pointer (some ⟨w.heap.size, 8, none⟩) else undef) := ⟨_, rfl⟩
      obtain ⟨x92, H92⟩ : ∃ x : Value, Hid (x = bif (((((f.tl : Int) != g.tl) || ((f.zx : Int) != g.zx)) || ((f.ct : Int) != g.ct)) == false) then .int .i64 f.by_ else undef) := ⟨_, rfl⟩
      obtain ⟨x93, H93⟩ : ∃ x : Value, Hid (x = bif (((((f.tl : Int) != g.tl) || ((f.zx : Int) != g.zx)) || ((f.ct : Int) != g.ct)) == false) then .pointer (some ⟨(w.heap.size + 1), 8, none⟩) else undef) := ⟨_, rfl⟩
      obtain ⟨x94, H94⟩ : ∃ x : Value, Hid (x = bif (((((f.tl : Int) != g.tl) || ((f.zx : Int) != g.zx)) || ((f.ct : Int) != g.ct)) == false) then .int .i64 g.by_ else undef) := ⟨_, rfl⟩
      obtain ⟨x95, H95⟩ : ∃ x : Value, Hid (x = bif (((((f.tl : Int) != g.tl) || ((f.zx : Int) != g.zx)) || ((f.ct : Int) != g.ct)) == false) then .bool ((f.by_ : Int) != g.by_) else undef) := ⟨_, rfl⟩
      obtain ⟨x96, H96⟩ : ∃ x : Value, Hid (x = .bool (((((f.tl : Int) != g.tl) || ((f.zx : Int) != g.zx)) || ((f.ct : Int) != g.ct)) || ((f.by_ : Int) != g.by_))) := ⟨_, rfl⟩
      obtain ⟨x97, H97⟩ : ∃ x : Value, Hid (x = .bool (((((f.tl : Int) != g.tl) || ((f.zx : Int) != g.zx)) || ((f.ct : Int) != g.ct)) || ((f.by_ : Int) != g.by_))) := ⟨_, rfl⟩
      obtain ⟨x98, H98⟩ : ∃ x : Value, Hid (x = bif ((((((f.tl : Int) != g.tl) || ((f.zx : Int) != g.zx)) || ((f.ct : Int) != g.ct)) || ((f.by_ : Int) != g.by_)) == false) then .pointer (some ⟨w.heap.size, 16, none⟩) else undef) := ⟨_, rfl⟩
      obtain ⟨x99, H99⟩ : ∃ x : Value, Hid (x = bif ((((((f.tl : Int) != g.tl) || ((f.zx : Int) != g.zx)) || ((f.ct : Int) != g.ct)) || ((f.by_ : Int) != g.by_)) == false) then .int .i32 f.to else undef) := ⟨_, rfl⟩
      obtain ⟨x100, H100⟩ : ∃ x : Value, Hid (x = bif ((((((f.tl : Int) != g.tl) || ((f.zx : Int) != g.zx)) || ((f.ct : Int) != g.ct)) || ((f.by_ : Int) != g.by_)) == false) then .pointer (some ⟨(w.heap.size + 1), 16, none⟩) else undef) := ⟨_, rfl⟩
      obtain ⟨x101, H101⟩ : ∃ x : Value, Hid (x = bif ((((((f.tl : Int) != g.tl) || ((f.zx : Int) != g.zx)) || ((f.ct : Int) != g.ct)) || ((f.by_ : Int) != g.by_)) == false) then .int .i32 g.to else undef) := ⟨_, rfl⟩
      obtain ⟨x102, H102⟩ : ∃ x : Value, Hid (x = bif ((((((f.tl : Int) != g.tl) || ((f.zx : Int) != g.zx)) || ((f.ct : Int) != g.ct)) || ((f.by_ : Int) != g.by_)) == false) then .bool ((f.to : Int) != g.to) else undef) := ⟨_, rfl⟩
      obtain ⟨x103, H103⟩ : ∃ x : Value, Hid (x = .bool ((((((f.tl : Int) != g.tl) || ((f.zx : Int) != g.zx)) || ((f.ct : Int) != g.ct)) || ((f.by_ : Int) != g.by_)) || ((f.to : Int) != g.to))) := ⟨_, rfl⟩
      obtain ⟨x104, H104⟩ : ∃ x : Value, Hid (x = .bool ((((((f.tl : Int) != g.tl) || ((f.zx : Int) != g.zx)) || ((f.ct : Int) != g.ct)) || ((f.by_ : Int) != g.by_)) || ((f.to : Int) != g.to))) := ⟨_, rfl⟩
      obtain ⟨x105, H105⟩ : ∃ x : Value, Hid (x = bif (((((((f.tl : Int) != g.tl) || ((f.zx : Int) != g.zx)) || ((f.ct : Int) != g.ct)) || ((f.by_ : Int) != g.by_)) || ((f.to : Int) != g.to)) == false) then .pointer (some ⟨w.heap.size, 17, none⟩) else undef) := ⟨_, rfl⟩
      obtain ⟨x106, H106⟩ : ∃ x : Value, Hid (x = bif (((((((f.tl : Int) != g.tl) || ((f.zx : Int) != g.zx)) || ((f.ct : Int) != g.ct)) || ((f.by_ : Int) != g.by_)) || ((f.to : Int) != g.to)) == false) then .slice i.A i.n i.c else undef) := ⟨_, rfl⟩
      obtain ⟨x107, H107⟩ : ∃ x : Value, Hid (x = bif (((((((f.tl : Int) != g.tl) || ((f.zx : Int) != g.zx)) || ((f.ct : Int) != g.ct)) || ((f.by_ : Int) != g.by_)) || ((f.to : Int) != g.to)) == false) then .pointer (some ⟨(w.heap.size + 1), 17, none⟩) else undef) := ⟨_, rfl⟩
      obtain ⟨x108, H108⟩ : ∃ x : Value, Hid (x = bif (((((((f.tl : Int) != g.tl) || ((f.zx : Int) != g.zx)) || ((f.ct : Int) != g.ct)) || ((f.by_ : Int) != g.by_)) || ((f.to : Int) != g.to)) == false) then .slice i'.A i'.n i'.c else undef) := ⟨_, rfl⟩
      obtain ⟨x109, H109⟩ : ∃ x : Value, Hid (x = bif (((((((f.tl : Int) != g.tl) || ((f.zx : Int) != g.zx)) || ((f.ct : Int) != g.ct)) || ((f.by_ : Int) != g.by_)) || ((f.to : Int) != g.to)) == false) then .bool ei else undef) := ⟨_, rfl⟩
      obtain ⟨x110, H110⟩ : ∃ x : Value, Hid (x = bif (((((((f.tl : Int) != g.tl) || ((f.zx : Int) != g.zx)) || ((f.ct : Int) != g.ct)) || ((f.by_ : Int) != g.by_)) || ((f.to : Int) != g.to)) == false) then .bool (!ei) else undef) := ⟨_, rfl⟩
      obtain ⟨x111, H111⟩ : ∃ x : Value, Hid (x = .bool (((((((f.tl : Int) != g.tl) || ((f.zx : Int) != g.zx)) || ((f.ct : Int) != g.ct)) || ((f.by_ : Int) != g.by_)) || ((f.to : Int) != g.to)) || (!ei))) := ⟨_, rfl⟩
      obtain ⟨x112, H112⟩ : ∃ x : Value, Hid (x = .bool (((((((f.tl : Int) != g.tl) || ((f.zx : Int) != g.zx)) || ((f.ct : Int) != g.ct)) || ((f.by_ : Int) != g.by_)) || ((f.to : Int) != g.to)) || (!ei))) := ⟨_, rfl⟩
      obtain ⟨x113, H113⟩ : ∃ x : Value, Hid (x = bif ((((((((f.tl : Int) != g.tl) || ((f.zx : Int) != g.zx)) || ((f.ct : Int) != g.ct)) || ((f.by_ : Int) != g.by_)) || ((f.to : Int) != g.to)) || (!ei)) == false) then .pointer (some ⟨w.heap.size, 18, none⟩) else undef) := ⟨_, rfl⟩
      obtain ⟨x114, H114⟩ : ∃ x : Value, Hid (x = bif ((((((((f.tl : Int) != g.tl) || ((f.zx : Int) != g.zx)) || ((f.ct : Int) != g.ct)) || ((f.by_ : Int) != g.by_)) || ((f.to : Int) != g.to)) || (!ei)) == false) then .slice s.A s.n s.c else undef) := ⟨_, rfl⟩
      obtain ⟨x115, H115⟩ : ∃ x : Value, Hid (x = bif ((((((((f.tl : Int) != g.tl) || ((f.zx : Int) != g.zx)) || ((f.ct : Int) != g.ct)) || ((f.by_ : Int) != g.by_)) || ((f.to : Int) != g.to)) || (!ei)) == false) then .int .i64 (s.n : Int) else undef) := ⟨_, rfl⟩
      obtain ⟨x116, H116⟩ : ∃ x : Value, Hid (x = bif ((((((((f.tl : Int) != g.tl) || ((f.zx : Int) != g.zx)) || ((f.ct : Int) != g.ct)) || ((f.by_ : Int) != g.by_)) || ((f.to : Int) != g.to)) || (!ei)) == false) then .pointer (some ⟨(w.heap.size + 1), 18, none⟩) else undef) := ⟨_, rfl⟩
      obtain ⟨x117, H117⟩ : ∃ x : Value, Hid (x = bif ((((((((f.tl : Int) != g.tl) || ((f.zx : Int) != g.zx)) || ((f.ct : Int) != g.ct)) || ((f.by_ : Int) != g.by_)) || ((f.to : Int) != g.to)) || (!ei)) == false) then .slice s'.A s'.n s'.c else undef) := ⟨_, rfl⟩
      obtain ⟨x118, H118⟩ : ∃ x : Value, Hid (x = bif ((((((((f.tl : Int) != g.tl) || ((f.zx : Int) != g.zx)) || ((f.ct : Int) != g.ct)) || ((f.by_ : Int) != g.by_)) || ((f.to : Int) != g.to)) || (!ei)) == false) then .int .i64 (s'.n : Int) else undef) := ⟨_, rfl⟩
      obtain ⟨x119, H119⟩ : ∃ x : Value, Hid (x = bif ((((((((f.tl : Int) != g.tl) || ((f.zx : Int) != g.zx)) || ((f.ct : Int) != g.ct)) || ((f.by_ : Int) != g.by_)) || ((f.to : Int) != g.to)) || (!ei)) == false) then .bool (((s.n : Int) : Int) != (s'.n : Int)) else undef) := ⟨_, rfl⟩
      refine wpList_seq (w0 := wr) (.inl x71 ::
    .inl x72 ::
    .inl x73 ::
    .inl x74 ::
    .inl x75 ::
    .inl x76 ::
    .inl x77 ::
    .inl x78 ::
    .inl x79 ::
    .inl x80 ::
    .inl x81 ::
    .inl x82 ::
    .inl x83 ::
    .inl x84 ::
    .inl x85 ::
    .inl x86 ::
    .inl x87 ::
    .inl x88 ::
    .inl x89 ::
    .inl x90 ::
    .inl x91 ::
    .inl x92 ::
    .inl x93 ::
    .inl x94 ::
    .inl x95 ::
    .inl x96 ::
    .inl x97 ::
    .inl x98 ::
    .inl x99 ::
    .inl x100 ::
    .inl x101 ::
    .inl x102 ::
    .inl x103 ::
    .inl x104 ::
    .inl x105 ::
    .inl x106 ::
    .inl x107 ::
    .inl x108 ::
    .inl x109 ::
    .inl x110 ::
    .inl x111 ::
    .inl x112 ::
    .inl x113 ::
    .inl x114 ::
    .inl x115 ::
    .inl x116 ::
    .inl x117 ::
    .inl x118 ::
    .inl x119 ::
    .inl (.bool ((((((((f.tl : Int) != g.tl) || ((f.zx : Int) != g.zx)) || ((f.ct : Int) != g.ct)) || ((f.by_ : Int) != g.by_)) || ((f.to : Int) != g.to)) || (!ei)) || (((s.n : Int) : Int) != (s'.n : Int)))) :: []) rfl (by as_aux_lemma => kernel_rfl) (by as_aux_lemma => kernel_rfl) (nomono rfl) ⟨fun ac W hb hold hdep K hK => op_u (u := .pointer (some ⟨w.heap.size, 9, none⟩)) rfl (r_field 29 _ 9 rfl (eval_tmp ((hold 2 (free_slot (by as_aux_lemma => kernel_rfl))).trans rfl)) Tryz.underlying29 rfl (n := 0) isz_2 rfl) (hK _ _ H71.out.symm (Below.refl _ _)),
        fun ac W hb hold hdep K hK => op_u (u := .int .i64 f.tl) rfl (r_load 2 _ rfl (eval_tmp ((dep_val (hdep 0 71 (by decide) rfl)).trans (congrArg some H71.out))) (blk_cell (HSr.out.below hb HSr.out.lt) 9 rfl) Tryz.underlying2 rfl) (hK _ _ H72.out.symm (Below.refl _ _)),
        fun ac W hb hold hdep K hK => op_u (u := .pointer (some ⟨(w.heap.size + 1), 9, none⟩)) rfl (r_field 29 _ 9 rfl (eval_tmp ((hold 3 (free_slot (by as_aux_lemma => kernel_rfl))).trans rfl)) Tryz.underlying29 rfl (n := 0) isz_2 rfl) (hK _ _ H73.out.symm (Below.refl _ _)),
        fun ac W hb hold hdep K hK => op_u (u := .int .i64 g.tl) rfl (r_load 2 _ rfl (eval_tmp ((dep_val (hdep 2 73 (by decide) rfl)).trans (congrArg some H73.out))) (blk_cell (HTr.out.below hb HTr.out.lt) 9 rfl) Tryz.underlying2 rfl) (hK _ _ H74.out.symm (Below.refl _ _)),
        fun ac W hb hold hdep K hK => op_u (u := .bool ((f.tl : Int) != g.tl)) rfl (r_ine 2 _ _ _ rfl (eval_tmp ((dep_val (hdep 1 72 (by decide) rfl)).trans (congrArg some H72.out))) (eval_tmp ((dep_val (hdep 3 74 (by decide) rfl)).trans (congrArg some H74.out)))) (hK _ _ H75.out.symm (Below.refl _ _)),
        fun ac W hb hold hdep K hK => op_u (u := .bool ((f.tl : Int) != g.tl)) rfl (r_move _ rfl (eval_tmp ((dep_val (hdep 4 75 (by decide) rfl)).trans (congrArg some H75.out)))) (hK _ _ H76.out.symm (Below.refl _ _)),
        fun ac W hb hold hdep K hK => op_g (u := .pointer (some ⟨w.heap.size, 10, none⟩)) (want_all rfl rfl ((dep_val (hdep 5 76 (by decide) rfl)).trans (congrArg some H76.out))) (fun hc => r_field 29 _ 10 rfl (eval_tmp ((hold 2 (free_slot (by as_aux_lemma => kernel_rfl))).trans rfl)) Tryz.underlying29 rfl (n := 0) isz_2 rfl) (hK _ _ H77.out.symm (Below.refl _ _)),
        fun ac W hb hold hdep K hK => op_g (u := .int .i64 f.zx) (want_all rfl rfl ((dep_val (hdep 5 76 (by decide) rfl)).trans (congrArg some H76.out))) (fun hc => r_load 2 _ rfl (eval_if ((dep_val (hdep 6 77 (by decide) rfl)).trans (congrArg some H77.out)) hc) (blk_cell (HSr.out.below hb HSr.out.lt) 10 rfl) Tryz.underlying2 rfl) (hK _ _ H78.out.symm (Below.refl _ _)),
        fun ac W hb hold hdep K hK => op_g (u := .pointer (some ⟨(w.heap.size + 1), 10, none⟩)) (want_all rfl rfl ((dep_val (hdep 5 76 (by decide) rfl)).trans (congrArg some H76.out))) (fun hc => r_field 29 _ 10 rfl (eval_tmp ((hold 3 (free_slot (by as_aux_lemma => kernel_rfl))).trans rfl)) Tryz.underlying29 rfl (n := 0) isz_2 rfl) (hK _ _ H79.out.symm (Below.refl _ _)),
        fun ac W hb hold hdep K hK => op_g (u := .int .i64 g.zx) (want_all rfl rfl ((dep_val (hdep 5 76 (by decide) rfl)).trans (congrArg some H76.out))) (fun hc => r_load 2 _ rfl (eval_if ((dep_val (hdep 8 79 (by decide) rfl)).trans (congrArg some H79.out)) hc) (blk_cell (HTr.out.below hb HTr.out.lt) 10 rfl) Tryz.underlying2 rfl) (hK _ _ H80.out.symm (Below.refl _ _)),
        fun ac W hb hold hdep K hK => op_g (u := .bool ((f.zx : Int) != g.zx)) (want_all rfl rfl ((dep_val (hdep 5 76 (by decide) rfl)).trans (congrArg some H76.out))) (fun hc => r_ine 2 _ _ _ rfl (eval_if ((dep_val (hdep 7 78 (by decide) rfl)).trans (congrArg some H78.out)) hc) (eval_if ((dep_val (hdep 9 80 (by decide) rfl)).trans (congrArg some H80.out)) hc)) (hK _ _ H81.out.symm (Below.refl _ _)),
        fun ac W hb hold hdep K hK => op_u (u := .bool (((f.tl : Int) != g.tl) || ((f.zx : Int) != g.zx))) rfl (r_or _ _ _ rfl (eval_tmp ((dep_val (hdep 5 76 (by decide) rfl)).trans (congrArg some H76.out))) rfl (fun hb => eval_if ((dep_val (hdep 10 81 (by decide) rfl)).trans (congrArg some H81.out)) (by simp [hb]))) (hK _ _ H82.out.symm (Below.refl _ _)),
        fun ac W hb hold hdep K hK => op_u (u := .bool (((f.tl : Int) != g.tl) || ((f.zx : Int) != g.zx))) rfl (r_move _ rfl (eval_tmp ((dep_val (hdep 11 82 (by decide) rfl)).trans (congrArg some H82.out)))) (hK _ _ H83.out.symm (Below.refl _ _)),
        fun ac W hb hold hdep K hK => op_g (u := .pointer (some ⟨w.heap.size, 7, none⟩)) (want_all rfl rfl ((dep_val (hdep 12 83 (by decide) rfl)).trans (congrArg some H83.out))) (fun hc => r_field 29 _ 7 rfl (eval_tmp ((hold 2 (free_slot (by as_aux_lemma => kernel_rfl))).trans rfl)) Tryz.underlying29 rfl (n := 0) isz_2 rfl) (hK _ _ H84.out.symm (Below.refl _ _)),
        fun ac W hb hold hdep K hK => op_g (u := .int .i64 f.ct) (want_all rfl rfl ((dep_val (hdep 12 83 (by decide) rfl)).trans (congrArg some H83.out))) (fun hc => r_load 2 _ rfl (eval_if ((dep_val (hdep 13 84 (by decide) rfl)).trans (congrArg some H84.out)) hc) (blk_cell (HSr.out.below hb HSr.out.lt) 7 rfl) Tryz.underlying2 rfl) (hK _ _ H85.out.symm (Below.refl _ _)),
        fun ac W hb hold hdep K hK => op_g (u := .pointer (some ⟨(w.heap.size + 1), 7, none⟩)) (want_all rfl rfl ((dep_val (hdep 12 83 (by decide) rfl)).trans (congrArg some H83.out))) (fun hc => r_field 29 _ 7 rfl (eval_tmp ((hold 3 (free_slot (by as_aux_lemma => kernel_rfl))).trans rfl)) Tryz.underlying29 rfl (n := 0) isz_2 rfl) (hK _ _ H86.out.symm (Below.refl _ _)),
        fun ac W hb hold hdep K hK => op_g (u := .int .i64 g.ct) (want_all rfl rfl ((dep_val (hdep 12 83 (by decide) rfl)).trans (congrArg some H83.out))) (fun hc => r_load 2 _ rfl (eval_if ((dep_val (hdep 15 86 (by decide) rfl)).trans (congrArg some H86.out)) hc) (blk_cell (HTr.out.below hb HTr.out.lt) 7 rfl) Tryz.underlying2 rfl) (hK _ _ H87.out.symm (Below.refl _ _)),
        fun ac W hb hold hdep K hK => op_g (u := .bool ((f.ct : Int) != g.ct)) (want_all rfl rfl ((dep_val (hdep 12 83 (by decide) rfl)).trans (congrArg some H83.out))) (fun hc => r_ine 2 _ _ _ rfl (eval_if ((dep_val (hdep 14 85 (by decide) rfl)).trans (congrArg some H85.out)) hc) (eval_if ((dep_val (hdep 16 87 (by decide) rfl)).trans (congrArg some H87.out)) hc)) (hK _ _ H88.out.symm (Below.refl _ _)),
        fun ac W hb hold hdep K hK => op_u (u := .bool ((((f.tl : Int) != g.tl) || ((f.zx : Int) != g.zx)) || ((f.ct : Int) != g.ct))) rfl (r_or _ _ _ rfl (eval_tmp ((dep_val (hdep 12 83 (by decide) rfl)).trans (congrArg some H83.out))) rfl (fun hb => eval_if ((dep_val (hdep 17 88 (by decide) rfl)).trans (congrArg some H88.out)) (by simp [hb]))) (hK _ _ H89.out.symm (Below.refl _ _)),
        fun ac W hb hold hdep K hK => op_u (u := .bool ((((f.tl : Int) != g.tl) || ((f.zx : Int) != g.zx)) || ((f.ct : Int) != g.ct))) rfl (r_move _ rfl (eval_tmp ((dep_val (hdep 18 89 (by decide) rfl)).trans (congrArg some H89.out)))) (hK _ _ H90.out.symm (Below.refl _ _)),
        fun ac W hb hold hdep K hK => op_g (u := .pointer (some ⟨w.heap.size, 8, none⟩)) (want_all rfl rfl ((dep_val (hdep 19 90 (by decide) rfl)).trans (congrArg some H90.out))) (fun hc => r_field 29 _ 8 rfl (eval_tmp ((hold 2 (free_slot (by as_aux_lemma => kernel_rfl))).trans rfl)) Tryz.underlying29 rfl (n := 0) isz_2 rfl) (hK _ _ H91.out.symm (Below.refl _ _)),
        fun ac W hb hold hdep K hK => op_g (u := .int .i64 f.by_) (want_all rfl rfl ((dep_val (hdep 19 90 (by decide) rfl)).trans (congrArg some H90.out))) (fun hc => r_load 2 _ rfl (eval_if ((dep_val (hdep 20 91 (by decide) rfl)).trans (congrArg some H91.out)) hc) (blk_cell (HSr.out.below hb HSr.out.lt) 8 rfl) Tryz.underlying2 rfl) (hK _ _ H92.out.symm (Below.refl _ _)),
        fun ac W hb hold hdep K hK => op_g (u := .pointer (some ⟨(w.heap.size + 1), 8, none⟩)) (want_all rfl rfl ((dep_val (hdep 19 90 (by decide) rfl)).trans (congrArg some H90.out))) (fun hc => r_field 29 _ 8 rfl (eval_tmp ((hold 3 (free_slot (by as_aux_lemma => kernel_rfl))).trans rfl)) Tryz.underlying29 rfl (n := 0) isz_2 rfl) (hK _ _ H93.out.symm (Below.refl _ _)),
        fun ac W hb hold hdep K hK => op_g (u := .int .i64 g.by_) (want_all rfl rfl ((dep_val (hdep 19 90 (by decide) rfl)).trans (congrArg some H90.out))) (fun hc => r_load 2 _ rfl (eval_if ((dep_val (hdep 22 93 (by decide) rfl)).trans (congrArg some H93.out)) hc) (blk_cell (HTr.out.below hb HTr.out.lt) 8 rfl) Tryz.underlying2 rfl) (hK _ _ H94.out.symm (Below.refl _ _)),
        fun ac W hb hold hdep K hK => op_g (u := .bool ((f.by_ : Int) != g.by_)) (want_all rfl rfl ((dep_val (hdep 19 90 (by decide) rfl)).trans (congrArg some H90.out))) (fun hc => r_ine 2 _ _ _ rfl (eval_if ((dep_val (hdep 21 92 (by decide) rfl)).trans (congrArg some H92.out)) hc) (eval_if ((dep_val (hdep 23 94 (by decide) rfl)).trans (congrArg some H94.out)) hc)) (hK _ _ H95.out.symm (Below.refl _ _)),
        fun ac W hb hold hdep K hK => op_u (u := .bool (((((f.tl : Int) != g.tl) || ((f.zx : Int) != g.zx)) || ((f.ct : Int) != g.ct)) || ((f.by_ : Int) != g.by_))) rfl (r_or _ _ _ rfl (eval_tmp ((dep_val (hdep 19 90 (by decide) rfl)).trans (congrArg some H90.out))) rfl (fun hb => eval_if ((dep_val (hdep 24 95 (by decide) rfl)).trans (congrArg some H95.out)) (by simp [hb]))) (hK _ _ H96.out.symm (Below.refl _ _)),
        fun ac W hb hold hdep K hK => op_u (u := .bool (((((f.tl : Int) != g.tl) || ((f.zx : Int) != g.zx)) || ((f.ct : Int) != g.ct)) || ((f.by_ : Int) != g.by_))) rfl (r_move _ rfl (eval_tmp ((dep_val (hdep 25 96 (by decide) rfl)).trans (congrArg some H96.out)))) (hK _ _ H97.out.symm (Below.refl _ _)),
        fun ac W hb hold hdep K hK => op_g (u := .pointer (some ⟨w.heap.size, 16, none⟩)) (want_all rfl rfl ((dep_val (hdep 26 97 (by decide) rfl)).trans (congrArg some H97.out))) (fun hc => r_field 29 _ 12 rfl (eval_tmp ((hold 2 (free_slot (by as_aux_lemma => kernel_rfl))).trans rfl)) Tryz.underlying29 rfl (n := 0) isz_21 rfl) (hK _ _ H98.out.symm (Below.refl _ _)),
        fun ac W hb hold hdep K hK => op_g (u := .int .i32 f.to) (want_all rfl rfl ((dep_val (hdep 26 97 (by decide) rfl)).trans (congrArg some H97.out))) (fun hc => r_load 21 _ rfl (eval_if ((dep_val (hdep 27 98 (by decide) rfl)).trans (congrArg some H98.out)) hc) (blk_cell (HSr.out.below hb HSr.out.lt) 16 rfl) Tryz.underlying21 rfl) (hK _ _ H99.out.symm (Below.refl _ _)),
        fun ac W hb hold hdep K hK => op_g (u := .pointer (some ⟨(w.heap.size + 1), 16, none⟩)) (want_all rfl rfl ((dep_val (hdep 26 97 (by decide) rfl)).trans (congrArg some H97.out))) (fun hc => r_field 29 _ 12 rfl (eval_tmp ((hold 3 (free_slot (by as_aux_lemma => kernel_rfl))).trans rfl)) Tryz.underlying29 rfl (n := 0) isz_21 rfl) (hK _ _ H100.out.symm (Below.refl _ _)),
        fun ac W hb hold hdep K hK => op_g (u := .int .i32 g.to) (want_all rfl rfl ((dep_val (hdep 26 97 (by decide) rfl)).trans (congrArg some H97.out))) (fun hc => r_load 21 _ rfl (eval_if ((dep_val (hdep 29 100 (by decide) rfl)).trans (congrArg some H100.out)) hc) (blk_cell (HTr.out.below hb HTr.out.lt) 16 rfl) Tryz.underlying21 rfl) (hK _ _ H101.out.symm (Below.refl _ _)),
        fun ac W hb hold hdep K hK => op_g (u := .bool ((f.to : Int) != g.to)) (want_all rfl rfl ((dep_val (hdep 26 97 (by decide) rfl)).trans (congrArg some H97.out))) (fun hc => r_ine 21 _ _ _ rfl (eval_if ((dep_val (hdep 28 99 (by decide) rfl)).trans (congrArg some H99.out)) hc) (eval_if ((dep_val (hdep 30 101 (by decide) rfl)).trans (congrArg some H101.out)) hc)) (hK _ _ H102.out.symm (Below.refl _ _)),
        fun ac W hb hold hdep K hK => op_u (u := .bool ((((((f.tl : Int) != g.tl) || ((f.zx : Int) != g.zx)) || ((f.ct : Int) != g.ct)) || ((f.by_ : Int) != g.by_)) || ((f.to : Int) != g.to))) rfl (r_or _ _ _ rfl (eval_tmp ((dep_val (hdep 26 97 (by decide) rfl)).trans (congrArg some H97.out))) rfl (fun hb => eval_if ((dep_val (hdep 31 102 (by decide) rfl)).trans (congrArg some H102.out)) (by simp [hb]))) (hK _ _ H103.out.symm (Below.refl _ _)),
        fun ac W hb hold hdep K hK => op_u (u := .bool ((((((f.tl : Int) != g.tl) || ((f.zx : Int) != g.zx)) || ((f.ct : Int) != g.ct)) || ((f.by_ : Int) != g.by_)) || ((f.to : Int) != g.to))) rfl (r_move _ rfl (eval_tmp ((dep_val (hdep 32 103 (by decide) rfl)).trans (congrArg some H103.out)))) (hK _ _ H104.out.symm (Below.refl _ _)),
        fun ac W hb hold hdep K hK => op_g (u := .pointer (some ⟨w.heap.size, 17, none⟩)) (want_all rfl rfl ((dep_val (hdep 33 104 (by decide) rfl)).trans (congrArg some H104.out))) (fun hc => r_field 29 _ 13 rfl (eval_tmp ((hold 2 (free_slot (by as_aux_lemma => kernel_rfl))).trans rfl)) Tryz.underlying29 rfl (n := 0) isz_26 rfl) (hK _ _ H105.out.symm (Below.refl _ _)),
        fun ac W hb hold hdep K hK => op_g (u := .slice i.A i.n i.c) (want_all rfl rfl ((dep_val (hdep 33 104 (by decide) rfl)).trans (congrArg some H104.out))) (fun hc => r_load 26 _ rfl (eval_if ((dep_val (hdep 34 105 (by decide) rfl)).trans (congrArg some H105.out)) hc) (blk_cell (HSr.out.below hb HSr.out.lt) 17 rfl) Tryz.underlying26 rfl) (hK _ _ H106.out.symm (Below.refl _ _)),
        fun ac W hb hold hdep K hK => op_g (u := .pointer (some ⟨(w.heap.size + 1), 17, none⟩)) (want_all rfl rfl ((dep_val (hdep 33 104 (by decide) rfl)).trans (congrArg some H104.out))) (fun hc => r_field 29 _ 13 rfl (eval_tmp ((hold 3 (free_slot (by as_aux_lemma => kernel_rfl))).trans rfl)) Tryz.underlying29 rfl (n := 0) isz_26 rfl) (hK _ _ H107.out.symm (Below.refl _ _)),
        fun ac W hb hold hdep K hK => op_g (u := .slice i'.A i'.n i'.c) (want_all rfl rfl ((dep_val (hdep 33 104 (by decide) rfl)).trans (congrArg some H104.out))) (fun hc => r_load 26 _ rfl (eval_if ((dep_val (hdep 36 107 (by decide) rfl)).trans (congrArg some H107.out)) hc) (blk_cell (HTr.out.below hb HTr.out.lt) 17 rfl) Tryz.underlying26 rfl) (hK _ _ H108.out.symm (Below.refl _ _)),
        fun ac W hb hold hdep K hK => op_call (u := .bool ei) (want_all rfl rfl ((dep_val (hdep 33 104 (by decide) rfl)).trans (congrArg some H104.out))) 37 _ _ rfl (#[.slice i.A i.n i.c, .slice i'.A i'.n i'.c]) (fun hc => by simp [(eval_if ((dep_val (hdep 35 106 (by decide) rfl)).trans (congrArg some H106.out)) hc), (eval_if ((dep_val (hdep 37 108 (by decide) rfl)).trans (congrArg some H108.out)) hc)]) Tryz.func37 (by as_aux_lemma => kernel_rfl) (by as_aux_lemma => kernel_rfl) (fun hc => CI.out W (HBr.out.trans (hb.mono HBr.out.size))) (fun w' hbl => hK _ _ H109.out.symm hbl),
        fun ac W hb hold hdep K hK => op_g (u := .bool (!ei)) (want_all rfl rfl ((dep_val (hdep 33 104 (by decide) rfl)).trans (congrArg some H104.out))) (fun hc => r_not _ _ rfl (eval_if ((dep_val (hdep 38 109 (by decide) rfl)).trans (congrArg some H109.out)) hc)) (hK _ _ H110.out.symm (Below.refl _ _)),
        fun ac W hb hold hdep K hK => op_u (u := .bool (((((((f.tl : Int) != g.tl) || ((f.zx : Int) != g.zx)) || ((f.ct : Int) != g.ct)) || ((f.by_ : Int) != g.by_)) || ((f.to : Int) != g.to)) || (!ei))) rfl (r_or _ _ _ rfl (eval_tmp ((dep_val (hdep 33 104 (by decide) rfl)).trans (congrArg some H104.out))) rfl (fun hb => eval_if ((dep_val (hdep 39 110 (by decide) rfl)).trans (congrArg some H110.out)) (by simp [hb]))) (hK _ _ H111.out.symm (Below.refl _ _)),
        fun ac W hb hold hdep K hK => op_u (u := .bool (((((((f.tl : Int) != g.tl) || ((f.zx : Int) != g.zx)) || ((f.ct : Int) != g.ct)) || ((f.by_ : Int) != g.by_)) || ((f.to : Int) != g.to)) || (!ei))) rfl (r_move _ rfl (eval_tmp ((dep_val (hdep 40 111 (by decide) rfl)).trans (congrArg some H111.out)))) (hK _ _ H112.out.symm (Below.refl _ _)),
        fun ac W hb hold hdep K hK => op_g (u := .pointer (some ⟨w.heap.size, 18, none⟩)) (want_all rfl rfl ((dep_val (hdep 41 112 (by decide) rfl)).trans (congrArg some H112.out))) (fun hc => r_field 29 _ 14 rfl (eval_tmp ((hold 2 (free_slot (by as_aux_lemma => kernel_rfl))).trans rfl)) Tryz.underlying29 rfl (n := 0) isz_27 rfl) (hK _ _ H113.out.symm (Below.refl _ _)),
        fun ac W hb hold hdep K hK => op_g (u := .slice s.A s.n s.c) (want_all rfl rfl ((dep_val (hdep 41 112 (by decide) rfl)).trans (congrArg some H112.out))) (fun hc => r_load 27 _ rfl (eval_if ((dep_val (hdep 42 113 (by decide) rfl)).trans (congrArg some H113.out)) hc) (blk_cell (HSr.out.below hb HSr.out.lt) 18 rfl) Tryz.underlying27 rfl) (hK _ _ H114.out.symm (Below.refl _ _)),
        fun ac W hb hold hdep K hK => op_g (u := .int .i64 (s.n : Int)) (want_all rfl rfl ((dep_val (hdep 41 112 (by decide) rfl)).trans (congrArg some H112.out))) (fun hc => r_len #[] #[] _ 27 rfl (eval_if ((dep_val (hdep 43 114 (by decide) rfl)).trans (congrArg some H114.out)) hc) Tryz.underlying27) (hK _ _ H115.out.symm (Below.refl _ _)),
        fun ac W hb hold hdep K hK => op_g (u := .pointer (some ⟨(w.heap.size + 1), 18, none⟩)) (want_all rfl rfl ((dep_val (hdep 41 112 (by decide) rfl)).trans (congrArg some H112.out))) (fun hc => r_field 29 _ 14 rfl (eval_tmp ((hold 3 (free_slot (by as_aux_lemma => kernel_rfl))).trans rfl)) Tryz.underlying29 rfl (n := 0) isz_27 rfl) (hK _ _ H116.out.symm (Below.refl _ _)),
        fun ac W hb hold hdep K hK => op_g (u := .slice s'.A s'.n s'.c) (want_all rfl rfl ((dep_val (hdep 41 112 (by decide) rfl)).trans (congrArg some H112.out))) (fun hc => r_load 27 _ rfl (eval_if ((dep_val (hdep 45 116 (by decide) rfl)).trans (congrArg some H116.out)) hc) (blk_cell (HTr.out.below hb HTr.out.lt) 18 rfl) Tryz.underlying27 rfl) (hK _ _ H117.out.symm (Below.refl _ _)),
        fun ac W hb hold hdep K hK => op_g (u := .int .i64 (s'.n : Int)) (want_all rfl rfl ((dep_val (hdep 41 112 (by decide) rfl)).trans (congrArg some H112.out))) (fun hc => r_len #[] #[] _ 27 rfl (eval_if ((dep_val (hdep 46 117 (by decide) rfl)).trans (congrArg some H117.out)) hc) Tryz.underlying27) (hK _ _ H118.out.symm (Below.refl _ _)),
        fun ac W hb hold hdep K hK => op_g (u := .bool (((s.n : Int) : Int) != (s'.n : Int))) (want_all rfl rfl ((dep_val (hdep 41 112 (by decide) rfl)).trans (congrArg some H112.out))) (fun hc => r_ine 3 _ _ _ rfl (eval_if ((dep_val (hdep 44 115 (by decide) rfl)).trans (congrArg some H115.out)) hc) (eval_if ((dep_val (hdep 47 118 (by decide) rfl)).trans (congrArg some H118.out)) hc)) (hK _ _ H119.out.symm (Below.refl _ _)),
        fun ac W hb hold hdep K hK => op_u (u := .bool ((((((((f.tl : Int) != g.tl) || ((f.zx : Int) != g.zx)) || ((f.ct : Int) != g.ct)) || ((f.by_ : Int) != g.by_)) || ((f.to : Int) != g.to)) || (!ei)) || (((s.n : Int) : Int) != (s'.n : Int)))) rfl (r_or _ _ _ rfl (eval_tmp ((dep_val (hdep 41 112 (by decide) rfl)).trans (congrArg some H112.out))) rfl (fun hb => eval_if ((dep_val (hdep 48 119 (by decide) rfl)).trans (congrArg some H119.out)) (by simp [hb]))) (hK _ _ rfl (Below.refl _ _)), trivial⟩ ?_
      intro w3 hb3
      simp only [Fin, Act.put, List.setIfInBounds_toArray, List.set_cons_zero, List.set_cons_succ]
      clear H71 H72 H73 H74 H75 H76 H77 H78 H79 H80 H81 H82 H83 H84 H85 H86 H87 H88 H89 H90 H91 H92 H93 H94 H95 H96 H97 H98 H99 H100 H101 H102 H103 H104 H105 H106 H107 H108 H109 H110 H111 H112 H113 H114 H115 H116 H117 H118 H119
      have HB3 := Lib.hid (HBr.out.trans (hb3.mono HBr.out.size))
      have HB4 := Lib.hid (HBK.out.trans (hb3.mono HBK.out.size))
      clear hb3
      cases hq2 : ((((((((f.tl : Int) != g.tl) || ((f.zx : Int) != g.zx)) || ((f.ct : Int) != g.ct)) || ((f.by_ : Int) != g.by_)) || ((f.to : Int) != g.to)) || (!ei)) || (((s.n : Int) : Int) != (s'.n : Int)))
      rotate_left
      · have hbf : b = false := HN2.out fun e => by
          rw [E2.out.2 e] at hq2
          cases hq2
        subst hbf
        clear hq2 E1 E2
        go_wp2
        go_ret
        exact ⟨rfl, HB3.out⟩
      have HP2 := Lib.hid (E2.out.1 hq2)
      have hnn : s.n = s'.n := by have h1 := HP2.out.2.2.2.2.2.2; rw [HH.out.len, HH'.out.len] at h1; exact h1
      have HNN := Lib.hid hnn
      clear hq2 E1 E2 hnn
      go_wp2
      go_loopw [6] (fun k' wr => ∃ j : Nat, j ≤ s.n ∧ k' = .int .i64 j ∧ Hid (∀ z, z < j → bs z = true) ∧ Below w1.heap.size w1 wr) (fun k' _ => s.n - (intOf k').toNat)
      case atStart => exact ⟨0, Nat.zero_le _, rfl, (by intro z hz; omega), HB4.out⟩
      case round =>
        clear HB3 HB4 HBr HBK HSr HTr
        obtain ⟨j, hj, rfl, HK, hbr⟩ := hrel
        have HBr := Lib.hid (HB1.out.trans (hbr.mono HB1.out.size))
        have HBK := Lib.hid hbr
        have HSj := Lib.hid (HS.out.below hbr HS.out.lt)
        have HTj := Lib.hid (HT.out.below hbr HT.out.lt)
        have c18 := blk_cell HSj.out 18 (u := .slice s.A s.n s.c) rfl
        by_cases hlt : j < s.n
        · have hj1 : j < Q.length := by rw [HH.out.len]; exact hlt
          have hj2 : j < Q'.length := by rw [HH'.out.len, ← HNN.out]; exact hlt
          obtain ⟨ad, hA, hr1⟩ := subs_cells (HH.out.reads.below HBr.out) HQ.out hj1 HH.out.len
          obtain ⟨ad', hA', hr2⟩ := subs_cells (HH'.out.reads.below HBr.out) HQ'.out hj2 HH'.out.len
          have hl1 := HQ.out _ (List.getElem_mem hj1)
          have hl2 := HQ'.out _ (List.getElem_mem hj2)
          have hc := HIH.out j hj1 hj2
          have HN := Lib.hid (HN4.out j hj1 hj2)
          obtain ⟨rc, hrc⟩ : ∃ r, r = (Q[j]).2 := ⟨_, rfl⟩
          obtain ⟨rd, hrd⟩ : ∃ r, r = (Q'[j]).2 := ⟨_, rfl⟩
          obtain ⟨bj, hbj⟩ : ∃ r, r = bs j := ⟨_, rfl⟩
          rw [← hrc] at hr1 hl1 hc
          rw [← hrd] at hr2 hl2 hc
          rw [← hbj] at hc HN
          have HBJ := Lib.hid hbj
          have CR1 : Hid (∀ {W}, Below wr.heap.size wr W → ∀ k v, rc[k]? = some v → W.cell? ((ad.add (j * 19)).add k) = some v) := fun {W} hW k v hk => by
            have h1 := hr1 k v hk
            have hlt' := cell_lt h1
            exact (hW.cell hlt').trans h1
          have CR2 : Hid (∀ {W}, Below wr.heap.size wr W → ∀ k v, rd[k]? = some v → W.cell? ((ad'.add (j * 19)).add k) = some v) := fun {W} hW k v hk => by
            have h1 := hr2 k v hk
            have hlt' := cell_lt h1
            exact (hW.cell hlt').trans h1
          have ZR1 : Hid ((Tryz.prog.info? 29).map (·.size) = some rc.length) := by unfold Hid; rw [hl1]; exact isz_29
          have ZR2 : Hid ((Tryz.prog.info? 29).map (·.size) = some rd.length) := by unfold Hid; rw [hl2]; exact isz_29
          have CJ : Hid (∀ W, Below wr.heap.size wr W → Calls Tryz.prog 15 #[.agg rc.toArray, .agg rd.toArray] W fun e w' => e = .returned (.bool bj) ∧ Below W.heap.size W w') := fun W hW => hc W (HBr.out.trans (hW.mono HBr.out.size))
          have CS : Hid (∀ {W}, Below wr.heap.size wr W → W.cell? ⟨w.heap.size, 18, none⟩ = some (.slice (some ad) s.n s.c)) := fun {W} hW => by rw [← hA]; exact blk_cell (HSj.out.below hW HSj.out.lt) 18 rfl
          have CT : Hid (∀ {W}, Below wr.heap.size wr W → W.cell? ⟨(w.heap.size + 1), 18, none⟩ = some (.slice (some ad') s.n s'.c)) := fun {W} hW => by rw [← hA', HNN.out]; exact blk_cell (HTj.out.below hW HTj.out.lt) 18 rfl
          clear hr1 hr2 hl1 hl2 hc hrc hrd hbj hj1 hj2 hbr
          go_wp2_with (fail)
          obtain ⟨x128, H128⟩ : ∃ x : Value, Hid (x = .pointer (some ⟨w.heap.size, 18, none⟩)) := ⟨_, rfl⟩
          obtain ⟨x129, H129⟩ : ∃ x : Value, Hid (x = .slice (some ad) s.n s.c) := ⟨_, rfl⟩
          obtain ⟨x130, H130⟩ : ∃ x : Value, Hid (x = .int .i64 (j : Int)) := ⟨_, rfl⟩
          obtain ⟨x131, H131⟩ : ∃ x : Value, Hid (x = .pointer (some (ad.add (j * 19)))) := ⟨_, rfl⟩
          obtain ⟨x132, H132⟩ : ∃ x : Value, Hid (x = .agg rc.toArray) := ⟨_, rfl⟩
          obtain ⟨x133, H133⟩ : ∃ x : Value, Hid (x = .pointer (some ⟨(w.heap.size + 1), 18, none⟩)) := ⟨_, rfl⟩
          obtain ⟨x134, H134⟩ : ∃ x : Value, Hid (x = .slice (some ad') s.n s'.c) := ⟨_, rfl⟩
          obtain ⟨x135, H135⟩ : ∃ x : Value, Hid (x = .int .i64 (j : Int)) := ⟨_, rfl⟩
          obtain ⟨x136, H136⟩ : ∃ x : Value, Hid (x = .pointer (some (ad'.add (j * 19)))) := ⟨_, rfl⟩
          obtain ⟨x137, H137⟩ : ∃ x : Value, Hid (x = .agg rd.toArray) := ⟨_, rfl⟩
          obtain ⟨x138, H138⟩ : ∃ x : Value, Hid (x = .bool bj) := ⟨_, rfl⟩
          refine wp_region_ord (w0 := wr) (.inl x128 ::
    .inl x129 ::
    .inl x130 ::
    .inl x131 ::
    .inl x132 ::
    .inl x133 ::
    .inl x134 ::
    .inl x135 ::
    .inl x136 ::
    .inl x137 ::
    .inl x138 ::
    .inl (.bool (!bj)) :: []) rfl (by as_aux_lemma => kernel_rfl) (by as_aux_lemma => kernel_rfl) (by as_aux_lemma => kernel_rfl) (by as_aux_lemma => kernel_rfl) (nomono rfl) ⟨fun ac W hb hold hdep K hK => op_u (u := .pointer (some ⟨w.heap.size, 18, none⟩)) rfl (r_field 29 _ 14 rfl (eval_tmp ((hold 2 (free_slot (by as_aux_lemma => kernel_rfl))).trans rfl)) Tryz.underlying29 rfl (n := 0) isz_27 rfl) (hK _ _ H128.out.symm (Below.refl _ _)),
            fun ac W hb hold hdep K hK => op_u (u := .slice (some ad) s.n s.c) rfl (r_load 27 _ rfl (eval_tmp ((dep_val (hdep ⟨0, .data⟩ (by simp) rfl 128 rfl)).trans (congrArg some H128.out))) (CS.out hb) Tryz.underlying27 rfl) (hK _ _ H129.out.symm (Below.refl _ _)),
            fun ac W hb hold hdep K hK => op_u (u := .int .i64 (j : Int)) rfl (r_move _ rfl (eval_tmp ((hold 6 (free_slot (by as_aux_lemma => kernel_rfl))).trans rfl))) (hK _ _ H130.out.symm (Below.refl _ _)),
            fun ac W hb hold hdep K hK => op_u (u := .pointer (some (ad.add (j * 19)))) rfl (r_index 27 _ _ rfl (eval_tmp ((dep_val (hdep ⟨1, .data⟩ (by simp) rfl 129 rfl)).trans (congrArg some H129.out))) (eval_tmp ((dep_val (hdep ⟨2, .data⟩ (by simp) rfl 130 rfl)).trans (congrArg some H130.out))) hlt Tryz.underlying27 isz_29 rfl) (hK _ _ H131.out.symm (Below.refl _ _)),
            fun ac W hb hold hdep K hK => op_u (u := .agg rc.toArray) rfl (r_load_row 29 _ rfl (eval_tmp ((dep_val (hdep ⟨3, .data⟩ (by simp) rfl 131 rfl)).trans (congrArg some H131.out))) rc (CR1.out hb) Tryz.underlying29 rfl ZR1.out) (hK _ _ H132.out.symm (Below.refl _ _)),
            fun ac W hb hold hdep K hK => op_u (u := .pointer (some ⟨(w.heap.size + 1), 18, none⟩)) rfl (r_field 29 _ 14 rfl (eval_tmp ((hold 3 (free_slot (by as_aux_lemma => kernel_rfl))).trans rfl)) Tryz.underlying29 rfl (n := 0) isz_27 rfl) (hK _ _ H133.out.symm (Below.refl _ _)),
            fun ac W hb hold hdep K hK => op_u (u := .slice (some ad') s.n s'.c) rfl (r_load 27 _ rfl (eval_tmp ((dep_val (hdep ⟨5, .data⟩ (by simp) rfl 133 rfl)).trans (congrArg some H133.out))) (CT.out hb) Tryz.underlying27 rfl) (hK _ _ H134.out.symm (Below.refl _ _)),
            fun ac W hb hold hdep K hK => op_u (u := .int .i64 (j : Int)) rfl (r_move _ rfl (eval_tmp ((hold 6 (free_slot (by as_aux_lemma => kernel_rfl))).trans rfl))) (hK _ _ H135.out.symm (Below.refl _ _)),
            fun ac W hb hold hdep K hK => op_u (u := .pointer (some (ad'.add (j * 19)))) rfl (r_index 27 _ _ rfl (eval_tmp ((dep_val (hdep ⟨6, .data⟩ (by simp) rfl 134 rfl)).trans (congrArg some H134.out))) (eval_tmp ((dep_val (hdep ⟨7, .data⟩ (by simp) rfl 135 rfl)).trans (congrArg some H135.out))) hlt Tryz.underlying27 isz_29 rfl) (hK _ _ H136.out.symm (Below.refl _ _)),
            fun ac W hb hold hdep K hK => op_u (u := .agg rd.toArray) rfl (r_load_row 29 _ rfl (eval_tmp ((dep_val (hdep ⟨8, .data⟩ (by simp) rfl 136 rfl)).trans (congrArg some H136.out))) rd (CR2.out hb) Tryz.underlying29 rfl ZR2.out) (hK _ _ H137.out.symm (Below.refl _ _)),
            fun ac W hb hold hdep K hK => op_call (u := .bool bj) (c := true) (want_free rfl) 15 _ _ rfl (#[.agg rc.toArray, .agg rd.toArray]) (fun hc => by simp [(eval_tmp ((dep_val (hdep ⟨4, .data⟩ (by simp) rfl 132 rfl)).trans (congrArg some H132.out))), (eval_tmp ((dep_val (hdep ⟨9, .data⟩ (by simp) rfl 137 rfl)).trans (congrArg some H137.out)))]) Tryz.func15 (by as_aux_lemma => kernel_rfl) (by as_aux_lemma => kernel_rfl) (fun hc => CJ.out W hb) (fun w' hbl => hK _ _ H138.out.symm hbl),
            fun ac W hb hold hdep K hK => op_u (u := .bool (!bj)) rfl (r_not _ _ rfl (eval_tmp ((dep_val (hdep ⟨10, .data⟩ (by simp) rfl 138 rfl)).trans (congrArg some H138.out)))) (hK _ _ rfl (Below.refl _ _)), trivial⟩ ?_
          intro w3 hb3
          simp only [Fin, Act.put, List.setIfInBounds_toArray, List.set_cons_zero, List.set_cons_succ]
          clear H128 H129 H130 H131 H132 H133 H134 H135 H136 H137 H138
          have HB3 := Lib.hid (HBr.out.trans (hb3.mono HBr.out.size))
          have HB4 := Lib.hid (HBK.out.trans (hb3.mono HBK.out.size))
          clear hb3
          cases bj
          · have hbf : b = false := HN.out rfl
            subst hbf
            go_wp2
            go_ret
            exact ⟨rfl, HB3.out⟩
          · have HK2 : Hid (∀ z, z < j + 1 → bs z = true) := fun z hz => by
              rcases (by omega : z < j ∨ z = j) with hz | rfl
              · exact HK.out z hz
              · exact HBJ.out.symm
            clear HN HBJ HK
            go_wp2
            go_roundw
            case rel => exact ⟨j + 1, by omega, by go_num, HK2, HB4.out⟩
            case measure => simp [intOf]; omega
        · have hbt : b = true := HY.out HP1.out (fun k h => HALL.out k h) HP2.out (fun z hz => HK.out z (by have := HH.out.len; omega))
          subst hbt
          clear HK hbr
          go_wp2
          go_ret
          exact ⟨rfl, HBr.out⟩
theorem lists_ext {f g : OpF} : (∀ k (h : k < 5), (f.lists[k]'h) = (g.lists[k]'h)) ↔ (f.K0 = g.K0 ∧ f.K1 = g.K1 ∧ f.K2 = g.K2 ∧ f.K3 = g.K3 ∧ f.K4 = g.K4) := by
  constructor
  · intro h
    exact ⟨h 0 (by decide), h 1 (by decide), h 2 (by decide), h 3 (by decide), h 4 (by decide)⟩
  · rintro ⟨h0, h1, h2, h3, h4⟩ k hk
    rcases (by omega : k = 0 ∨ k = 1 ∨ k = 2 ∨ k = 3 ∨ k = 4) with rfl | rfl | rfl | rfl | rfl
    · exact h0
    · exact h1
    · exact h2
    · exact h3
    · exact h4
theorem OpF.ext' {f g : OpF} (h1 : f.t = g.t ∧ f.p = g.p ∧ f.l = g.l ∧ f.L = g.L ∧ f.fl = g.fl ∧ f.ve = g.ve ∧ f.wa = g.wa) (h2 : f.tl = g.tl ∧ f.zx = g.zx ∧ f.ct = g.ct ∧ f.by_ = g.by_ ∧ f.to = g.to ∧ f.I = g.I) (h3 : f.K0 = g.K0 ∧ f.K1 = g.K1 ∧ f.K2 = g.K2 ∧ f.K3 = g.K3 ∧ f.K4 = g.K4) : f = g := by
  obtain ⟨_, _, _, _, _, _, _, _, _, _, _, _, _, _, _, _, _, _⟩ := f
  obtain ⟨_, _, _, _, _, _, _, _, _, _, _, _, _, _, _, _, _, _⟩ := g
  simp_all
/-- the document's Same: whether the contents are the same -/
theorem same_any {w : World} {lo : Option Nat} {x : OpC} {cs : List Value} (hx : At w lo x cs) : ∀ {lo' : Option Nat} {y : OpC} {ds : List Value}, At w lo' y ds →
    ∃ b : Bool, (b = true ↔ x = y) ∧ ∀ W, Below w.heap.size w W → Calls Tryz.prog 15 #[.agg cs.toArray, .agg ds.toArray] W fun e w' => e = .returned (.bool b) ∧ Below W.heap.size W w' := by
  induction hx with
  | mk f d a k0 k1 k2 k3 k4 i s Q ok hd ha hk0 hk1 hk2 hk3 hk4 hi hs hQ ih =>
    intro lo' y ds hy
    cases hy with
    | mk g d' a' k0' k1' k2' k3' k4' i' s' Q' ok' hd' ha' hk0' hk1' hk2' hk3' hk4' hi' hs' hQ' =>
      have hbs : ∀ j, ∃ bj : Bool, ∀ (h : j < Q.length) (h' : j < Q'.length), (bj = true ↔ (Q[j]).1 = (Q'[j]).1) ∧ ∀ W, Below w.heap.size w W → Calls Tryz.prog 15 #[.agg (Q[j]).2.toArray, .agg (Q'[j]).2.toArray] W fun e w' => e = .returned (.bool bj) ∧ Below W.heap.size W w' := by
        intro j
        by_cases h : j < Q.length ∧ j < Q'.length
        · obtain ⟨bj, h1, h2⟩ := ih _ (List.getElem_mem h.1) (hQ' _ (List.getElem_mem h.2))
          exact ⟨bj, fun _ _ => ⟨h1, h2⟩⟩
        · exact ⟨true, fun h1 h2 => absurd ⟨h1, h2⟩ h⟩
      obtain ⟨bs, hbs⟩ := Classical.axiomOfChoice hbs
      obtain ⟨b, hb⟩ : ∃ b : Bool, (b = true ↔ OpC.mk f (Q.map Prod.fst) = OpC.mk g (Q'.map Prod.fst)) := ⟨@decide (OpC.mk f (Q.map Prod.fst) = OpC.mk g (Q'.map Prod.fst)) (Classical.propDecidable _), @decide_eq_true_iff _ (Classical.propDecidable _)⟩
      have hno : ¬ (OpC.mk f (Q.map Prod.fst) = OpC.mk g (Q'.map Prod.fst)) → b = false := fun h => by
        cases b
        · rfl
        · exact absurd (hb.1 rfl) h
      have hmap : ∀ j (h : j < Q.length) (h' : j < Q'.length), Q.map Prod.fst = Q'.map Prod.fst → (Q[j]).1 = (Q'[j]).1 := fun j h h' e => by
        have h1 : (Q.map Prod.fst)[j]? = (Q'.map Prod.fst)[j]? := by rw [e]
        simpa [h, h'] using h1
      refine ⟨b, hb, fun W hW => ?_⟩
      have F : FAt W lo f d a k0 k1 k2 k3 k4 i := ⟨hd.later hW, ha.later hW, hk0.later hW, hk1.later hW, hk2.later hW, hk3.later hW, hk4.later hW, hi.later hW⟩
      have F' : FAt W lo' g d' a' k0' k1' k2' k3' k4' i' := ⟨hd'.later hW, ha'.later hW, hk0'.later hW, hk1'.later hW, hk2'.later hW, hk3'.later hW, hk4'.later hW, hi'.later hW⟩
      refine same_walk f g d a k0 k1 k2 k3 k4 i s d' a' k0' k1' k2' k3' k4' i' s' Q Q' bs b W F F' (hs.later hW) (hs'.later hW) (fun q hq => (hQ q hq).len) (fun q hq => (hQ' q hq).len)
        (fun j h h' W' hW' => (hbs j h h').2 W' (hW.trans (hW'.mono hW.size))) ?_ ?_ ?_ ?_ ?_ _ _ rfl rfl
      · exact fun hn => hno fun e => hn (by injection e with e _; subst e; exact ⟨rfl, rfl, rfl, rfl, rfl, rfl, rfl⟩)
      · exact fun hn => hno fun e => hn (by
          injection e with e e2
          subst e
          have := congrArg List.length e2
          simp only [List.length_map] at this
          exact ⟨rfl, rfl, rfl, rfl, rfl, rfl, this⟩)
      · exact fun k hk hn => hno fun e => hn (by injection e with e _; subst e; rfl)
      · exact fun j h h' hbf => hno fun e => by
          injection e with _ e2
          have := (hbs j h h').1.2 (hmap j h h' e2)
          rw [hbf] at this
          cases this
      · intro h1 h2 h3 h4
        refine hb.2 ?_
        have hf : f = g := OpF.ext' h1 ⟨h3.1, h3.2.1, h3.2.2.1, h3.2.2.2.1, h3.2.2.2.2.1, h3.2.2.2.2.2.1⟩ (lists_ext.1 h2)
        have hl := h3.2.2.2.2.2.2
        have hm : Q.map Prod.fst = Q'.map Prod.fst := by
          refine List.ext_getElem (by simp [hl]) fun j hj hj' => ?_
          simp only [List.length_map] at hj hj'
          simpa using (hbs j hj hj').1.1 (h4 j hj)
        rw [hf, hm]
end Go.Proofs.YtpjjnmdfgcfnmaaGreatDoor
