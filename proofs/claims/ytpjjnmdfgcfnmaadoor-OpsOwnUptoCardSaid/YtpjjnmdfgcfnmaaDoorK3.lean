/- Part 3 of a proof: lemmas and walks. -/
import Derived.Test.YtpjjnmdfgcfnmaaDoorK2
import Derived.Test.YtpjjnmdfgcfnmaaDoorK1
set_option linter.unusedVariables false
set_option linter.unusedSimpArgs false
set_option maxRecDepth 100000
set_option maxHeartbeats 8000000
namespace Go.Proofs.YtpjjnmdfgcfnmaaDoor
open Go.RowKit

abbrev Oq5P1 (f : OpF) (g : OpF) : Bool := ((f.tl : Int) != g.tl) || ((f.zx : Int) != g.zx)
abbrev Oq5P2 (f : OpF) (g : OpF) : Bool := ((f.t : Int) != g.t) || (!(f.p.toList == g.p.toList))
abbrev Oq5P3 (f : OpF) (g : OpF) : Bool := (Oq5P1 f g) || ((f.ct : Int) != g.ct)
abbrev Oq5P4 (f : OpF) (g : OpF) (tx : ByteArray) (ty : ByteArray) : Bool := (Oq5P2 f g) || (!(tx.toList == ty.toList))
abbrev Oq5P5 (f : OpF) (g : OpF) (tx : ByteArray) (ty : ByteArray) (ea : Bool) : Bool := (Oq5P4 f g tx ty) || (!ea)
abbrev Oq5P6 (f : OpF) (g : OpF) (tx : ByteArray) (ty : ByteArray) : Bool := (Oq5P4 f g tx ty) == false
abbrev Oq5P7 (f : OpF) (g : OpF) : Bool := (Oq5P3 f g) || ((f.by_ : Int) != g.by_)
abbrev Oq5P8 (f : OpF) (g : OpF) (tx : ByteArray) (ty : ByteArray) (ea : Bool) : Bool := (Oq5P5 f g tx ty ea) == false
abbrev Oq5P9 (f : OpF) (g : OpF) (tx : ByteArray) (ty : ByteArray) (ea : Bool) : Bool := (Oq5P5 f g tx ty ea) || ((f.fl : Int) != g.fl)
abbrev Oq5P10 (f : OpF) (g : OpF) : Bool := (Oq5P7 f g) || ((f.to : Int) != g.to)
abbrev Oq5P11 (f : OpF) (g : OpF) (tx : ByteArray) (ty : ByteArray) (ea : Bool) : Bool := (Oq5P9 f g tx ty ea) == false
abbrev Oq5P12 (f : OpF) (g : OpF) (tx : ByteArray) (ty : ByteArray) (ea : Bool) : Bool := (Oq5P9 f g tx ty ea) || ((f.ve : Int) != g.ve)
abbrev Oq5P13 (f : OpF) (g : OpF) (ei : Bool) : Bool := ((Oq5P10 f g) || (!ei)) == false
abbrev Oq5P14 (f : OpF) (g : OpF) (tx : ByteArray) (ty : ByteArray) (ea : Bool) : Bool := (Oq5P12 f g tx ty ea) == false
abbrev Oq5P15 (f : OpF) (g : OpF) (tx : ByteArray) (ty : ByteArray) (ea : Bool) : Bool := (Oq5P12 f g tx ty ea) || (f.wa != g.wa)
abbrev Oq5P16 (f : OpF) (g : OpF) (ei : Bool) (s : Sl) (s' : Sl) : Bool := ((Oq5P10 f g) || (!ei)) || (((s.n : Int) : Int) != (s'.n : Int))

theorem subs_row : ∀ (Q : List (OpC × List Value)), (∀ q ∈ Q, q.2.length = 19) → ∀ (j : Nat) (hj : j < Q.length) (k : Nat), k < 19 → (Q.flatMap Prod.snd)[j * 19 + k]? = (Q[j]).2[k]?
 | [], _, j, hj, _, _ => absurd hj (by simp)
 | q :: r, h, j, hj, k, hk => by
   have hq := h q (by simp)
   rw [List.flatMap_cons]
   rcases j with _ | j
   · rw [Nat.zero_mul, Nat.zero_add, List.getElem?_append_left (by omega)]
     rfl
   · rw [List.getElem?_append_right (by omega), hq, show (j + 1) * 19 + k - 19 = j * 19 + k by omega, subs_row r (fun x hx => h x (by simp [hx])) j (by simpa using hj) k hk]
     rfl
theorem subs_cells {w : World} {B n : Nat} {A : Option Addr} {Q : List (OpC × List Value)} (h : Reads w B 19 A n (Q.flatMap Prod.snd)) (hl : ∀ q ∈ Q, q.2.length = 19) {j : Nat} (hj : j < Q.length) (hn : Q.length = n) :
 ∃ ad, A = some ad ∧ ∀ k v, (Q[j]).2[k]? = some v → w.cell? ((ad.add (j * 19)).add k) = some v := by
 obtain ⟨ad, hA, _, hc⟩ := h.2 (by omega)
 refine ⟨ad, hA, fun k v hk => ?_⟩
 have hk22 : k < 19 := by
  have := (List.getElem?_eq_some_iff.1 hk).1
  rwa [hl _ (List.getElem_mem hj)] at this
 rw [add_of_add]
 exact hc (j * 19 + k) v ((subs_row Q hl j hj k hk22).trans hk)

theorem same_walk {lo lo' : Option Nat} (f g : OpF) (d a k0 k1 k2 k3 k4 i s d' a' k0' k1' k2' k3' k4' i' s' : Sl) (Q Q' : List (OpC × List Value)) (bs : Nat → Bool) (b : Bool) (w : World) (h : FAt w lo f d a k0 k1 k2 k3 k4 i) (h' : FAt w lo' g d' a' k0' k1' k2' k3' k4' i')
 (hs : SlAt w lo 29 19 296 s Q.length (Q.flatMap Prod.snd)) (hs' : SlAt w lo' 29 19 296 s' Q'.length (Q'.flatMap Prod.snd)) (hq : ∀ q ∈ Q, q.2.length = 19) (hq' : ∀ q ∈ Q', q.2.length = 19)
 (IH : ∀ j (h : j < Q.length) (h' : j < Q'.length) W, Below w.heap.size w W → Calls Tryd.prog 14 #[.agg (Q[j]).2.toArray, .agg (Q'[j]).2.toArray] W fun e w' => e = .returned (.bool (bs j)) ∧ Below W.heap.size W w')
 (N1 : ¬ (f.t = g.t ∧ f.p = g.p ∧ f.l = g.l ∧ f.L = g.L ∧ f.fl = g.fl ∧ f.ve = g.ve ∧ f.wa = g.wa) → b = false)
 (N2 : ¬ (f.tl = g.tl ∧ f.zx = g.zx ∧ f.ct = g.ct ∧ f.by_ = g.by_ ∧ f.to = g.to ∧ f.I = g.I ∧ Q.length = Q'.length) → b = false)
 (N3 : ∀ k (h : k < 5), (f.lists[k]'h) ≠ (g.lists[k]'h) → b = false) (N4 : ∀ j, j < Q.length → j < Q'.length → bs j = false → b = false)
 (Y : (f.t = g.t ∧ f.p = g.p ∧ f.l = g.l ∧ f.L = g.L ∧ f.fl = g.fl ∧ f.ve = g.ve ∧ f.wa = g.wa) → (∀ k (h : k < 5), (f.lists[k]'h) = (g.lists[k]'h)) → (f.tl = g.tl ∧ f.zx = g.zx ∧ f.ct = g.ct ∧ f.by_ = g.by_ ∧ f.to = g.to ∧ f.I = g.I ∧ Q.length = Q'.length) → (∀ j, j < Q.length → bs j = true) → b = true)
 (cs ds : Array Value) (hcs : cs = (f.row d a k0 k1 k2 k3 k4 i s).toArray) (hds : ds = (g.row d' a' k0' k1' k2' k3' k4' i' s').toArray) :
 Calls Tryd.prog 14 #[.agg cs, .agg ds] w fun e w' => e = .returned (.bool b) ∧ Below w.heap.size w w' := by
 obtain ⟨w1, hw1⟩ : ∃ w1, (w.alloc (.cells cs 29)).alloc (.cells ds 29) = w1 := ⟨_, rfl⟩
 have hb1 : Below w.heap.size w w1 := by rw [← hw1]; exact (zT.alloc zR _).alloc (by simp) _
 have hS : Blk w1 w.heap.size 29 (f.row d a k0 k1 k2 k3 k4 i s).toArray := by rw [← hcs, ← hw1]; exact (Blk.new _ _ _).alloc _
 have hT : Blk w1 (w.heap.size + 1) 29 (g.row d' a' k0' k1' k2' k3' k4' i' s').toArray := by rw [← hds, ← hw1]; exact Blk.new' (by simp)
 have CX : Hid (∀ W, Below w.heap.size w W → (convert 22 9 (.slice d.A d.n d.c)).run Tryd.prog W = .ok (.string ⟨f.l.toArray⟩) W) := fun W hW => run_string_of_bytes zU22 zU5 (h.d.reads.below hW) 9 zU9
 have CY : Hid (∀ W, Below w.heap.size w W → (convert 22 9 (.slice d'.A d'.n d'.c)).run Tryd.prog W = .ok (.string ⟨g.l.toArray⟩) W) := fun W hW => run_string_of_bytes zU22 zU5 (h'.d.reads.below hW) 9 zU9
 have CA : Hid (∀ W, Below w.heap.size w W → Calls Tryd.prog 31 #[.slice a.A a.n a.c, .slice a'.A a'.n a'.c] W fun e w' => e = .returned (.bool (decide (f.L = g.L))) ∧ Below W.heap.size W w') := fun W hW => acls05_any _ _ _ _ _ _ _ _ w.heap.size W (Nat.le_trans (h.a.bd (by decide)) (by decide)) (Nat.le_trans (h'.a.bd (by decide)) (by decide)) hW.size (h.a.reads.below hW) (h'.a.reads.below hW)
 have CI : Hid (∀ W, Below w.heap.size w W → Calls Tryd.prog 33 #[.slice i.A i.n i.c, .slice i'.A i'.n i'.c] W fun e w' => e = .returned (.bool (decide (f.I = g.I))) ∧ Below W.heap.size W w') := fun W hW => ids11_any _ _ _ _ _ _ _ _ w.heap.size W (Nat.le_trans (h.i.bd (by decide)) (by decide)) (Nat.le_trans (h'.i.bd (by decide)) (by decide)) hW.size (h.i.reads.below hW) (h'.i.reads.below hW)
 have LX := Hi (listsAt h hb1 hS)
 have LY := Hi (listsAt h' hb1 hT)
 have hxy : ((⟨f.l.toArray⟩ : ByteArray).toList == (⟨g.l.toArray⟩ : ByteArray).toList) = decide (f.l = g.l) := by
  rw [Lib.toList_data, Lib.toList_data, Bool.eq_iff_iff]
  simp
 have hpp : (f.p.toList == g.p.toList) = decide (f.p = g.p) := by
  rw [Bool.eq_iff_iff]
  simp [toL_iff]
 obtain ⟨tx, htx⟩ : ∃ x : ByteArray, x = ⟨f.l.toArray⟩ := ⟨_, rfl⟩
 obtain ⟨ty, hty⟩ : ∃ x : ByteArray, x = ⟨g.l.toArray⟩ := ⟨_, rfl⟩
 rw [← htx] at CX hxy
 rw [← hty] at CY hxy
 obtain ⟨ea, hea⟩ : ∃ x, x = decide (f.L = g.L) := ⟨_, rfl⟩
 obtain ⟨ei, hei⟩ : ∃ x, x = decide (f.I = g.I) := ⟨_, rfl⟩
 rw [← hea] at CA
 rw [← hei] at CI
 have hsb := hs.bd (by decide)
 have hsl := hs.len
 have hsl' := hs'.len
 have E1 : Hid (((((((((f.t : Int) != g.t) || (!(f.p.toList == g.p.toList))) || (!(tx.toList == ty.toList))) || (!ea)) || ((f.fl : Int) != g.fl)) || ((f.ve : Int) != g.ve)) || (f.wa != g.wa)) = false ↔ (f.t = g.t ∧ f.p = g.p ∧ f.l = g.l ∧ f.L = g.L ∧ f.fl = g.fl ∧ f.ve = g.ve ∧ f.wa = g.wa)) := by
  unfold Hid
  rw [hxy, hpp, hea]
  simp [and_assoc]
 have E2 : Hid (((((((((f.tl : Int) != g.tl) || ((f.zx : Int) != g.zx)) || ((f.ct : Int) != g.ct)) || ((f.by_ : Int) != g.by_)) || ((f.to : Int) != g.to)) || (!ei)) || (((s.n : Int) : Int) != (s'.n : Int))) = false ↔ (f.tl = g.tl ∧ f.zx = g.zx ∧ f.ct = g.ct ∧ f.by_ = g.by_ ∧ f.to = g.to ∧ f.I = g.I ∧ Q.length = Q'.length)) := by
  unfold Hid
  rw [hei]
  simp only [Bool.or_eq_false_iff, bne_eq_false_iff_eq, Bool.not_eq_false', decide_eq_true_eq, and_assoc, hsl, hsl', Int.ofNat_inj]
 have HS := Hi hS
 have HT := Hi hT
 have HB1 := Hi hb1
 have HH := Hi hs
 have HH' := Hi hs'
 have HQ := Hi hq
 have HQ' := Hi hq'
 have HIH := Hi IH
 have HN1 := Hi N1
 have HN2 := Hi N2
 have HN3 := Hi N3
 have HN4 := Hi N4
 have HY := Hi Y
 have ZO := Hi isz_29
 clear hb1 hS hT h h' hcs hds hxy hpp htx hty hea hei hs hs' hq hq' IH N1 N2 N3 N4 Y hsl hsl'
 go_enter Tryd.func14, Tryd.ntmps14
 iterate 18 go_step
 obtain ⟨x7, H7⟩ := xv (.pointer (some ⟨w.heap.size, 0, none⟩))
 obtain ⟨x8, H8⟩ := xv (.int .i32 f.t)
 obtain ⟨x9, H9⟩ := xv (.pointer (some ⟨(w.heap.size + 1), 0, none⟩))
 obtain ⟨x10, H10⟩ := xv (.int .i32 g.t)
 obtain ⟨x11, H11⟩ := xv (.bool ((f.t : Int) != g.t))
 obtain ⟨x12, H12⟩ := xv (.bool ((f.t : Int) != g.t))
 obtain ⟨x13, H13⟩ := xv (bif (((f.t : Int) != g.t) == false) then .pointer (some ⟨w.heap.size, 1, none⟩) else undef)
 obtain ⟨x14, H14⟩ := xv (bif (((f.t : Int) != g.t) == false) then .string f.p else undef)
 obtain ⟨x15, H15⟩ := xv (bif (((f.t : Int) != g.t) == false) then .pointer (some ⟨(w.heap.size + 1), 1, none⟩) else undef)
 obtain ⟨x16, H16⟩ := xv (bif (((f.t : Int) != g.t) == false) then .string g.p else undef)
 obtain ⟨x17, H17⟩ := xv (bif (((f.t : Int) != g.t) == false) then .bool (!(f.p.toList == g.p.toList)) else undef)
 obtain ⟨x18, H18⟩ := xv (.bool (Oq5P2 f g))
 obtain ⟨x19, H19⟩ := xv (.bool (Oq5P2 f g))
 obtain ⟨x20, H20⟩ := xv (bif ((Oq5P2 f g) == false) then .pointer (some ⟨w.heap.size, 2, none⟩) else undef)
 obtain ⟨x21, H21⟩ := xv (bif ((Oq5P2 f g) == false) then .slice d.A d.n d.c else undef)
 obtain ⟨x22, H22⟩ := xv (bif ((Oq5P2 f g) == false) then .string tx else undef)
 obtain ⟨x23, H23⟩ := xv (bif ((Oq5P2 f g) == false) then .pointer (some ⟨(w.heap.size + 1), 2, none⟩) else undef)
 obtain ⟨x24, H24⟩ := xv (bif ((Oq5P2 f g) == false) then .slice d'.A d'.n d'.c else undef)
 obtain ⟨x25, H25⟩ := xv (bif ((Oq5P2 f g) == false) then .string ty else undef)
 obtain ⟨x26, H26⟩ := xv (bif ((Oq5P2 f g) == false) then .bool (!(tx.toList == ty.toList)) else undef)
 obtain ⟨x27, H27⟩ := xv (.bool (Oq5P4 f g tx ty))
 obtain ⟨x28, H28⟩ := xv (.bool (Oq5P4 f g tx ty))
 obtain ⟨x29, H29⟩ := xv (bif (Oq5P6 f g tx ty) then .pointer (some ⟨w.heap.size, 3, none⟩) else undef)
 obtain ⟨x30, H30⟩ := xv (bif (Oq5P6 f g tx ty) then .slice a.A a.n a.c else undef)
 obtain ⟨x31, H31⟩ := xv (bif (Oq5P6 f g tx ty) then .pointer (some ⟨(w.heap.size + 1), 3, none⟩) else undef)
 obtain ⟨x32, H32⟩ := xv (bif (Oq5P6 f g tx ty) then .slice a'.A a'.n a'.c else undef)
 obtain ⟨x33, H33⟩ := xv (bif (Oq5P6 f g tx ty) then .bool ea else undef)
 obtain ⟨x34, H34⟩ := xv (bif (Oq5P6 f g tx ty) then .bool (!ea) else undef)
 obtain ⟨x35, H35⟩ := xv (.bool (Oq5P5 f g tx ty ea))
 obtain ⟨x36, H36⟩ := xv (.bool (Oq5P5 f g tx ty ea))
 obtain ⟨x37, H37⟩ := xv (bif (Oq5P8 f g tx ty ea) then .pointer (some ⟨w.heap.size, 4, none⟩) else undef)
 obtain ⟨x38, H38⟩ := xv (bif (Oq5P8 f g tx ty ea) then .int .i32 f.fl else undef)
 obtain ⟨x39, H39⟩ := xv (bif (Oq5P8 f g tx ty ea) then .pointer (some ⟨(w.heap.size + 1), 4, none⟩) else undef)
 obtain ⟨x40, H40⟩ := xv (bif (Oq5P8 f g tx ty ea) then .int .i32 g.fl else undef)
 obtain ⟨x41, H41⟩ := xv (bif (Oq5P8 f g tx ty ea) then .bool ((f.fl : Int) != g.fl) else undef)
 obtain ⟨x42, H42⟩ := xv (.bool (Oq5P9 f g tx ty ea))
 obtain ⟨x43, H43⟩ := xv (.bool (Oq5P9 f g tx ty ea))
 obtain ⟨x44, H44⟩ := xv (bif (Oq5P11 f g tx ty ea) then .pointer (some ⟨w.heap.size, 5, none⟩) else undef)
 obtain ⟨x45, H45⟩ := xv (bif (Oq5P11 f g tx ty ea) then .int .i32 f.ve else undef)
 obtain ⟨x46, H46⟩ := xv (bif (Oq5P11 f g tx ty ea) then .pointer (some ⟨(w.heap.size + 1), 5, none⟩) else undef)
 obtain ⟨x47, H47⟩ := xv (bif (Oq5P11 f g tx ty ea) then .int .i32 g.ve else undef)
 obtain ⟨x48, H48⟩ := xv (bif (Oq5P11 f g tx ty ea) then .bool ((f.ve : Int) != g.ve) else undef)
 obtain ⟨x49, H49⟩ := xv (.bool (Oq5P12 f g tx ty ea))
 obtain ⟨x50, H50⟩ := xv (.bool (Oq5P12 f g tx ty ea))
 obtain ⟨x51, H51⟩ := xv (bif (Oq5P14 f g tx ty ea) then .pointer (some ⟨w.heap.size, 6, none⟩) else undef)
 obtain ⟨x52, H52⟩ := xv (bif (Oq5P14 f g tx ty ea) then .bool f.wa else undef)
 obtain ⟨x53, H53⟩ := xv (bif (Oq5P14 f g tx ty ea) then .pointer (some ⟨(w.heap.size + 1), 6, none⟩) else undef)
 obtain ⟨x54, H54⟩ := xv (bif (Oq5P14 f g tx ty ea) then .bool g.wa else undef)
 obtain ⟨x55, H55⟩ := xv (bif (Oq5P14 f g tx ty ea) then .bool (f.wa != g.wa) else undef)
 refine wpList_seq (w0 := w1) (.inl x7 ::
  .inl x8 ::
  .inl x9 ::
  .inl x10 ::
  .inl x11 ::
  .inl x12 ::
  .inl x13 ::
  .inl x14 ::
  .inl x15 ::
  .inl x16 ::
  .inl x17 ::
  .inl x18 ::
  .inl x19 ::
  .inl x20 ::
  .inl x21 ::
  .inl x22 ::
  .inl x23 ::
  .inl x24 ::
  .inl x25 ::
  .inl x26 ::
  .inl x27 ::
  .inl x28 ::
  .inl x29 ::
  .inl x30 ::
  .inl x31 ::
  .inl x32 ::
  .inl x33 ::
  .inl x34 ::
  .inl x35 ::
  .inl x36 ::
  .inl x37 ::
  .inl x38 ::
  .inl x39 ::
  .inl x40 ::
  .inl x41 ::
  .inl x42 ::
  .inl x43 ::
  .inl x44 ::
  .inl x45 ::
  .inl x46 ::
  .inl x47 ::
  .inl x48 ::
  .inl x49 ::
  .inl x50 ::
  .inl x51 ::
  .inl x52 ::
  .inl x53 ::
  .inl x54 ::
  .inl x55 ::
  .inl (.bool (Oq5P15 f g tx ty ea)) :: []) rfl (by kernel_rfl) (by kernel_rfl) (nomono rfl) ⟨fun ac W hb o q K hK => op_u (u := .pointer (some ⟨w.heap.size, 0, none⟩)) rfl (r_field 29 _ 0 rfl (yA (hO o 2)) zU29 rfl (n := 0) isz_21 rfl) (kH hK H7),
  fun ac W hb o q K hK => op_u (u := .int .i32 f.t) rfl (r_load 21 _ rfl (yA (dQ q 0 7 H7)) (yC (HS.out.below hb HS.out.lt) 0 rfl) zU21 rfl) (kH hK H8),
  fun ac W hb o q K hK => op_u (u := .pointer (some ⟨(w.heap.size + 1), 0, none⟩)) rfl (r_field 29 _ 0 rfl (yA (hO o 3)) zU29 rfl (n := 0) isz_21 rfl) (kH hK H9),
  fun ac W hb o q K hK => op_u (u := .int .i32 g.t) rfl (r_load 21 _ rfl (yA (dQ q 2 9 H9)) (yC (HT.out.below hb HT.out.lt) 0 rfl) zU21 rfl) (kH hK H10),
  fun ac W hb o q K hK => op_u (u := .bool ((f.t : Int) != g.t)) rfl (r_ine 21 _ _ _ rfl (yA (dQ q 1 8 H8)) (yA (dQ q 3 10 H10))) (kH hK H11),
  fun ac W hb o q K hK => op_u (u := .bool ((f.t : Int) != g.t)) rfl (r_move _ rfl (yA (dQ q 4 11 H11))) (kH hK H12),
  fun ac W hb o q K hK => op_g (u := .pointer (some ⟨w.heap.size, 1, none⟩)) (wQ (dQ q 5 12 H12)) (fun hc => r_field 29 _ 1 rfl (yA (hO o 2)) zU29 rfl (n := 0) isz_9 rfl) (kH hK H13),
  fun ac W hb o q K hK => op_g (u := .string f.p) (wQ (dQ q 5 12 H12)) (fun hc => r_load 9 _ rfl (yB (dQ q 6 13 H13) hc) (yC (HS.out.below hb HS.out.lt) 1 rfl) zU9 rfl) (kH hK H14),
  fun ac W hb o q K hK => op_g (u := .pointer (some ⟨(w.heap.size + 1), 1, none⟩)) (wQ (dQ q 5 12 H12)) (fun hc => r_field 29 _ 1 rfl (yA (hO o 3)) zU29 rfl (n := 0) isz_9 rfl) (kH hK H15),
  fun ac W hb o q K hK => op_g (u := .string g.p) (wQ (dQ q 5 12 H12)) (fun hc => r_load 9 _ rfl (yB (dQ q 8 15 H15) hc) (yC (HT.out.below hb HT.out.lt) 1 rfl) zU9 rfl) (kH hK H16),
  fun ac W hb o q K hK => op_g (u := .bool (!(f.p.toList == g.p.toList))) (wQ (dQ q 5 12 H12)) (fun hc => r_sne 9 _ _ _ rfl (yB (dQ q 7 14 H14) hc) (yB (dQ q 9 16 H16) hc)) (kH hK H17),
  fun ac W hb o q K hK => op_u (u := .bool (Oq5P2 f g)) rfl (r_or _ _ _ rfl (yA (dQ q 5 12 H12)) rfl (fun hb => yB (dQ q 10 17 H17) (by simp [hb]))) (kH hK H18),
  fun ac W hb o q K hK => op_u (u := .bool (Oq5P2 f g)) rfl (r_move _ rfl (yA (dQ q 11 18 H18))) (kH hK H19),
  fun ac W hb o q K hK => op_g (u := .pointer (some ⟨w.heap.size, 2, none⟩)) (wQ (dQ q 12 19 H19)) (fun hc => r_field 29 _ 2 rfl (yA (hO o 2)) zU29 rfl (n := 0) isz_22 rfl) (kH hK H20),
  fun ac W hb o q K hK => op_g (u := .slice d.A d.n d.c) (wQ (dQ q 12 19 H19)) (fun hc => r_load 22 _ rfl (yB (dQ q 13 20 H20) hc) (yC (HS.out.below hb HS.out.lt) 2 rfl) zU22 rfl) (kH hK H21),
  fun ac W hb o q K hK => op_g (u := .string tx) (wQ (dQ q 12 19 H19)) (fun hc => r_conv 22 9 _ rfl (yB (dQ q 14 21 H21) hc) (CX.out W (HB1.out.trans (hb.mono HB1.out.size)))) (kH hK H22),
  fun ac W hb o q K hK => op_g (u := .pointer (some ⟨(w.heap.size + 1), 2, none⟩)) (wQ (dQ q 12 19 H19)) (fun hc => r_field 29 _ 2 rfl (yA (hO o 3)) zU29 rfl (n := 0) isz_22 rfl) (kH hK H23),
  fun ac W hb o q K hK => op_g (u := .slice d'.A d'.n d'.c) (wQ (dQ q 12 19 H19)) (fun hc => r_load 22 _ rfl (yB (dQ q 16 23 H23) hc) (yC (HT.out.below hb HT.out.lt) 2 rfl) zU22 rfl) (kH hK H24),
  fun ac W hb o q K hK => op_g (u := .string ty) (wQ (dQ q 12 19 H19)) (fun hc => r_conv 22 9 _ rfl (yB (dQ q 17 24 H24) hc) (CY.out W (HB1.out.trans (hb.mono HB1.out.size)))) (kH hK H25),
  fun ac W hb o q K hK => op_g (u := .bool (!(tx.toList == ty.toList))) (wQ (dQ q 12 19 H19)) (fun hc => r_sne 9 _ _ _ rfl (yB (dQ q 15 22 H22) hc) (yB (dQ q 18 25 H25) hc)) (kH hK H26),
  fun ac W hb o q K hK => op_u (u := .bool (Oq5P4 f g tx ty)) rfl (r_or _ _ _ rfl (yA (dQ q 12 19 H19)) rfl (fun hb => yB (dQ q 19 26 H26) (by simp [hb]))) (kH hK H27),
  fun ac W hb o q K hK => op_u (u := .bool (Oq5P4 f g tx ty)) rfl (r_move _ rfl (yA (dQ q 20 27 H27))) (kH hK H28),
  fun ac W hb o q K hK => op_g (u := .pointer (some ⟨w.heap.size, 3, none⟩)) (wQ (dQ q 21 28 H28)) (fun hc => r_field 29 _ 3 rfl (yA (hO o 2)) zU29 rfl (n := 0) isz_23 rfl) (kH hK H29),
  fun ac W hb o q K hK => op_g (u := .slice a.A a.n a.c) (wQ (dQ q 21 28 H28)) (fun hc => r_load 23 _ rfl (yB (dQ q 22 29 H29) hc) (yC (HS.out.below hb HS.out.lt) 3 rfl) zU23 rfl) (kH hK H30),
  fun ac W hb o q K hK => op_g (u := .pointer (some ⟨(w.heap.size + 1), 3, none⟩)) (wQ (dQ q 21 28 H28)) (fun hc => r_field 29 _ 3 rfl (yA (hO o 3)) zU29 rfl (n := 0) isz_23 rfl) (kH hK H31),
  fun ac W hb o q K hK => op_g (u := .slice a'.A a'.n a'.c) (wQ (dQ q 21 28 H28)) (fun hc => r_load 23 _ rfl (yB (dQ q 24 31 H31) hc) (yC (HT.out.below hb HT.out.lt) 3 rfl) zU23 rfl) (kH hK H32),
  fun ac W hb o q K hK => op_call (u := .bool ea) (wQ (dQ q 21 28 H28)) 31 _ _ rfl (#[.slice a.A a.n a.c, .slice a'.A a'.n a'.c]) (fun hc => by simp [(yB (dQ q 23 30 H30) hc), (yB (dQ q 25 32 H32) hc)]) Tryd.func31 (by kernel_rfl) (by kernel_rfl) (fun hc => CA.out W (HB1.out.trans (hb.mono HB1.out.size))) (fun w' hbl => hK _ _ H33.out.symm hbl),
  fun ac W hb o q K hK => op_g (u := .bool (!ea)) (wQ (dQ q 21 28 H28)) (fun hc => r_not _ _ rfl (yB (dQ q 26 33 H33) hc)) (kH hK H34),
  fun ac W hb o q K hK => op_u (u := .bool (Oq5P5 f g tx ty ea)) rfl (r_or _ _ _ rfl (yA (dQ q 21 28 H28)) rfl (fun hb => yB (dQ q 27 34 H34) (by simp [hb]))) (kH hK H35),
  fun ac W hb o q K hK => op_u (u := .bool (Oq5P5 f g tx ty ea)) rfl (r_move _ rfl (yA (dQ q 28 35 H35))) (kH hK H36),
  fun ac W hb o q K hK => op_g (u := .pointer (some ⟨w.heap.size, 4, none⟩)) (wQ (dQ q 29 36 H36)) (fun hc => r_field 29 _ 4 rfl (yA (hO o 2)) zU29 rfl (n := 0) isz_21 rfl) (kH hK H37),
  fun ac W hb o q K hK => op_g (u := .int .i32 f.fl) (wQ (dQ q 29 36 H36)) (fun hc => r_load 21 _ rfl (yB (dQ q 30 37 H37) hc) (yC (HS.out.below hb HS.out.lt) 4 rfl) zU21 rfl) (kH hK H38),
  fun ac W hb o q K hK => op_g (u := .pointer (some ⟨(w.heap.size + 1), 4, none⟩)) (wQ (dQ q 29 36 H36)) (fun hc => r_field 29 _ 4 rfl (yA (hO o 3)) zU29 rfl (n := 0) isz_21 rfl) (kH hK H39),
  fun ac W hb o q K hK => op_g (u := .int .i32 g.fl) (wQ (dQ q 29 36 H36)) (fun hc => r_load 21 _ rfl (yB (dQ q 32 39 H39) hc) (yC (HT.out.below hb HT.out.lt) 4 rfl) zU21 rfl) (kH hK H40),
  fun ac W hb o q K hK => op_g (u := .bool ((f.fl : Int) != g.fl)) (wQ (dQ q 29 36 H36)) (fun hc => r_ine 21 _ _ _ rfl (yB (dQ q 31 38 H38) hc) (yB (dQ q 33 40 H40) hc)) (kH hK H41),
  fun ac W hb o q K hK => op_u (u := .bool (Oq5P9 f g tx ty ea)) rfl (r_or _ _ _ rfl (yA (dQ q 29 36 H36)) rfl (fun hb => yB (dQ q 34 41 H41) (by simp [hb]))) (kH hK H42),
  fun ac W hb o q K hK => op_u (u := .bool (Oq5P9 f g tx ty ea)) rfl (r_move _ rfl (yA (dQ q 35 42 H42))) (kH hK H43),
  fun ac W hb o q K hK => op_g (u := .pointer (some ⟨w.heap.size, 5, none⟩)) (wQ (dQ q 36 43 H43)) (fun hc => r_field 29 _ 5 rfl (yA (hO o 2)) zU29 rfl (n := 0) isz_21 rfl) (kH hK H44),
  fun ac W hb o q K hK => op_g (u := .int .i32 f.ve) (wQ (dQ q 36 43 H43)) (fun hc => r_load 21 _ rfl (yB (dQ q 37 44 H44) hc) (yC (HS.out.below hb HS.out.lt) 5 rfl) zU21 rfl) (kH hK H45),
  fun ac W hb o q K hK => op_g (u := .pointer (some ⟨(w.heap.size + 1), 5, none⟩)) (wQ (dQ q 36 43 H43)) (fun hc => r_field 29 _ 5 rfl (yA (hO o 3)) zU29 rfl (n := 0) isz_21 rfl) (kH hK H46),
  fun ac W hb o q K hK => op_g (u := .int .i32 g.ve) (wQ (dQ q 36 43 H43)) (fun hc => r_load 21 _ rfl (yB (dQ q 39 46 H46) hc) (yC (HT.out.below hb HT.out.lt) 5 rfl) zU21 rfl) (kH hK H47),
  fun ac W hb o q K hK => op_g (u := .bool ((f.ve : Int) != g.ve)) (wQ (dQ q 36 43 H43)) (fun hc => r_ine 21 _ _ _ rfl (yB (dQ q 38 45 H45) hc) (yB (dQ q 40 47 H47) hc)) (kH hK H48),
  fun ac W hb o q K hK => op_u (u := .bool (Oq5P12 f g tx ty ea)) rfl (r_or _ _ _ rfl (yA (dQ q 36 43 H43)) rfl (fun hb => yB (dQ q 41 48 H48) (by simp [hb]))) (kH hK H49),
  fun ac W hb o q K hK => op_u (u := .bool (Oq5P12 f g tx ty ea)) rfl (r_move _ rfl (yA (dQ q 42 49 H49))) (kH hK H50),
  fun ac W hb o q K hK => op_g (u := .pointer (some ⟨w.heap.size, 6, none⟩)) (wQ (dQ q 43 50 H50)) (fun hc => r_field 29 _ 6 rfl (yA (hO o 2)) zU29 rfl (n := 0) isz_4 rfl) (kH hK H51),
  fun ac W hb o q K hK => op_g (u := .bool f.wa) (wQ (dQ q 43 50 H50)) (fun hc => r_load 4 _ rfl (yB (dQ q 44 51 H51) hc) (yC (HS.out.below hb HS.out.lt) 6 rfl) zU4 rfl) (kH hK H52),
  fun ac W hb o q K hK => op_g (u := .pointer (some ⟨(w.heap.size + 1), 6, none⟩)) (wQ (dQ q 43 50 H50)) (fun hc => r_field 29 _ 6 rfl (yA (hO o 3)) zU29 rfl (n := 0) isz_4 rfl) (kH hK H53),
  fun ac W hb o q K hK => op_g (u := .bool g.wa) (wQ (dQ q 43 50 H50)) (fun hc => r_load 4 _ rfl (yB (dQ q 46 53 H53) hc) (yC (HT.out.below hb HT.out.lt) 6 rfl) zU4 rfl) (kH hK H54),
  fun ac W hb o q K hK => op_g (u := .bool (f.wa != g.wa)) (wQ (dQ q 43 50 H50)) (fun hc => r_bne 4 _ _ _ rfl zU4 (yB (dQ q 45 52 H52) hc) (yB (dQ q 47 54 H54) hc)) (kH hK H55),
  fun ac W hb o q K hK => op_u (u := .bool (Oq5P15 f g tx ty ea)) rfl (r_or _ _ _ rfl (yA (dQ q 43 50 H50)) rfl (fun hb => yB (dQ q 48 55 H55) (by simp [hb]))) (kR hK), trivial⟩ ?_
 intro w2 hb2
 simp only [Fin, Act.put, zD, zA, zB]
 clear H7 H8 H9 H10 H11 H12 H13 H14 H15 H16 H17 H18 H19 H20 H21 H22 H23 H24 H25 H26 H27 H28 H29 H30 H31 H32 H33 H34 H35 H36 H37 H38 H39 H40 H41 H42 H43 H44 H45 H46 H47 H48 H49 H50 H51 H52 H53 H54 H55
 cases hq1 : (Oq5P15 f g tx ty ea)
 rotate_left
 · have hbf : b = false := HN1.out fun e => by
    exact absurd ((E1.out.2 e).symm.trans hq1) (by decide)
   have HB2 := Hi (HB1.out.trans (hb2.mono HB1.out.size))
   subst hbf
   clear hq1 hb2 E1 E2
   go_wp2
   go_ret
   exact ⟨rfl, HB2.out⟩
 have HP1 := Hi (E1.out.1 hq1)
 have HB2 := Hi hb2
 clear hq1 hb2
 go_wp2
 go_loopw [5] (fun k' wr => ∃ k : Nat, k ≤ 5 ∧ k' = .int .i64 k ∧ Hid (∀ z, z < k → ∀ h : z < 5, (f.lists[z]'h) = (g.lists[z]'h)) ∧ Below w1.heap.size w1 wr) (fun k' _ => 5 - (intOf k').toNat)
 case atStart => exact ⟨0, by omega, rfl, (by intro z hz; omega), HB2.out⟩
 case round =>
  clear HB2
  obtain ⟨k, hk, rfl, HK, hbr⟩ := hrel
  have HBr := Hi (HB1.out.trans (hbr.mono HB1.out.size))
  have HSr := Hi (HS.out.below hbr HS.out.lt)
  have HTr := Hi (HT.out.below hbr HT.out.lt)
  by_cases hlt : k < 5
  · have lx := LX.out.below hbr HB1.out.size HS.out.lt
    have ly := LY.out.below hbr HB1.out.size HT.out.lt
    have e1 := lx.cell k hlt
    have e2 := ly.cell k hlt
    have r1 := lx.reads k hlt
    have r2 := ly.reads k hlt
    have b1 := lx.bd k hlt
    have b2 := ly.bd k hlt
    have hf1 : (f.lists[k]'hlt) = ([(k0, f.K0), (k1, f.K1), (k2, f.K2), (k3, f.K3), (k4, f.K4)][k]'hlt).2 := by
     rcases (by omega : k = 0 ∨ k = 1 ∨ k = 2 ∨ k = 3 ∨ k = 4) with rfl | rfl | rfl | rfl | rfl <;> rfl
    have hf2 : (g.lists[k]'hlt) = ([(k0', g.K0), (k1', g.K1), (k2', g.K2), (k3', g.K3), (k4', g.K4)][k]'hlt).2 := by
     rcases (by omega : k = 0 ∨ k = 1 ∨ k = 2 ∨ k = 3 ∨ k = 4) with rfl | rfl | rfl | rfl | rfl <;> rfl
    obtain ⟨⟨⟨A1, n1, c1⟩, L1⟩, q1⟩ : ∃ q, q = [(k0, f.K0), (k1, f.K1), (k2, f.K2), (k3, f.K3), (k4, f.K4)][k]'hlt := ⟨_, rfl⟩
    obtain ⟨⟨⟨A2, n2, c2⟩, L2⟩, q2⟩ : ∃ q, q = [(k0', g.K0), (k1', g.K1), (k2', g.K2), (k3', g.K3), (k4', g.K4)][k]'hlt := ⟨_, rfl⟩
    rw [← q1] at e1 r1 b1 hf1
    rw [← q2] at e2 r2 b2 hf2
    unfold Sl.v at e1 e2
    dsimp only at e1 e2 r1 r2 b1 b2 hf1 hf2
    have CE1 : Hid (∀ {W}, Below wr.heap.size wr W → W.cell? ((⟨w.heap.size, 11, none⟩ : Addr).add (k * 1)) = some (.slice A1 n1 c1)) := fun {W} hW => by
     rw [zN, Nat.mul_one]
     exact (hW.cell (p := ⟨w.heap.size, 11 + k, none⟩) HSr.out.lt).trans e1
    have CE2 : Hid (∀ {W}, Below wr.heap.size wr W → W.cell? ((⟨(w.heap.size + 1), 11, none⟩ : Addr).add (k * 1)) = some (.slice A2 n2 c2)) := fun {W} hW => by
     rw [zN, Nat.mul_one]
     exact (hW.cell (p := ⟨w.heap.size + 1, 11 + k, none⟩) HTr.out.lt).trans e2
    have CK : Hid (∀ W, Below wr.heap.size wr W → Calls Tryd.prog 32 #[.slice A1 n1 c1, .slice A2 n2 c2] W fun e w' => e = .returned (.bool (decide (L1 = L2))) ∧ Below W.heap.size W w') := fun W hW =>
     texts11_any A1 A2 n1 n2 c1 c2 L1 L2 w.heap.size W (by omega) (by omega) (Nat.le_trans HBr.out.size hW.size) (r1.below (hW.mono HBr.out.size)) (r2.below (hW.mono HBr.out.size))
    obtain ⟨ek, hek⟩ : ∃ x, x = decide (L1 = L2) := ⟨_, rfl⟩
    rw [← hek] at CK
    have HEK : Hid (ek = true ↔ (f.lists[k]'hlt) = (g.lists[k]'hlt)) := by unfold Hid; rw [hek, hf1, hf2]; simp
    have HBK := Hi hbr
    clear e1 e2 r1 r2 b1 b2 hf1 hf2 q1 q2 lx ly hek hbr
    go_wp2_with (fail)
    obtain ⟨x61, H61⟩ := xv (.int .i64 (k : Int))
    obtain ⟨x62, H62⟩ := xv (.pointer (some ⟨w.heap.size, 11, none⟩))
    obtain ⟨x63, H63⟩ := xv (.pointer (some ((⟨w.heap.size, 11, none⟩ : Addr).add (k * 1))))
    obtain ⟨x64, H64⟩ := xv (.slice A1 n1 c1)
    obtain ⟨x65, H65⟩ := xv (.int .i64 (k : Int))
    obtain ⟨x66, H66⟩ := xv (.pointer (some ⟨(w.heap.size + 1), 11, none⟩))
    obtain ⟨x67, H67⟩ := xv (.pointer (some ((⟨(w.heap.size + 1), 11, none⟩ : Addr).add (k * 1))))
    obtain ⟨x68, H68⟩ := xv (.slice A2 n2 c2)
    obtain ⟨x69, H69⟩ := xv (.bool ek)
    refine wp_region_ord (w0 := wr) (.inl x61 ::
     .inl x62 ::
     .inl x63 ::
     .inl x64 ::
     .inl x65 ::
     .inl x66 ::
     .inl x67 ::
     .inl x68 ::
     .inl x69 ::
     .inl (.bool (!ek)) :: []) rfl (by kernel_rfl) (by kernel_rfl) (by kernel_rfl) (by kernel_rfl) (nomono rfl) ⟨fun ac W hb o q K hK => op_u (u := .int .i64 (k : Int)) rfl (r_move _ rfl (yA (hO o 5))) (kH hK H61),
     fun ac W hb o q K hK => op_u (u := .pointer (some ⟨w.heap.size, 11, none⟩)) rfl (r_field 29 _ 11 rfl (yA (hO o 2)) zU29 rfl (n := 4) isz_25 rfl) (kH hK H62),
     fun ac W hb o q K hK => op_u (u := .pointer (some ((⟨w.heap.size, 11, none⟩ : Addr).add (k * 1)))) rfl (r_indexA 25 _ _ rfl (yA (dE q 1 62 H62)) (yA (dE q 0 61 H61)) hlt zU25 isz_24 rfl) (kH hK H63),
     fun ac W hb o q K hK => op_u (u := .slice A1 n1 c1) rfl (r_load 24 _ rfl (yA (dE q 2 63 H63)) (CE1.out hb) zU24 rfl) (kH hK H64),
     fun ac W hb o q K hK => op_u (u := .int .i64 (k : Int)) rfl (r_move _ rfl (yA (hO o 5))) (kH hK H65),
     fun ac W hb o q K hK => op_u (u := .pointer (some ⟨(w.heap.size + 1), 11, none⟩)) rfl (r_field 29 _ 11 rfl (yA (hO o 3)) zU29 rfl (n := 4) isz_25 rfl) (kH hK H66),
     fun ac W hb o q K hK => op_u (u := .pointer (some ((⟨(w.heap.size + 1), 11, none⟩ : Addr).add (k * 1)))) rfl (r_indexA 25 _ _ rfl (yA (dE q 5 66 H66)) (yA (dE q 4 65 H65)) hlt zU25 isz_24 rfl) (kH hK H67),
     fun ac W hb o q K hK => op_u (u := .slice A2 n2 c2) rfl (r_load 24 _ rfl (yA (dE q 6 67 H67)) (CE2.out hb) zU24 rfl) (kH hK H68),
     fun ac W hb o q K hK => op_call (u := .bool ek) (c := true) (want_free rfl) 32 _ _ rfl (#[.slice A1 n1 c1, .slice A2 n2 c2]) (fun hc => by simp [(yA (dE q 3 64 H64)), (yA (dE q 7 68 H68))]) Tryd.func32 (by kernel_rfl) (by kernel_rfl) (fun hc => CK.out W hb) (fun w' hbl => hK _ _ H69.out.symm hbl),
     fun ac W hb o q K hK => op_u (u := .bool (!ek)) rfl (r_not _ _ rfl (yA (dE q 8 69 H69))) (kR hK), trivial⟩ ?_
    intro w3 hb3
    simp only [Fin, Act.put, zD, zA, zB]
    clear H61 H62 H63 H64 H65 H66 H67 H68 H69
    have HB3 := Hi (HBr.out.trans (hb3.mono HBr.out.size))
    have HB4 := Hi (HBK.out.trans (hb3.mono HBK.out.size))
    clear hb3
    cases ek
    · have hbf : b = false := HN3.out k hlt fun e => by have := HEK.out.2 e; cases this
      subst hbf
      go_wp2
      go_ret
      exact ⟨rfl, HB3.out⟩
    · have HK2 : Hid (∀ z, z < k + 1 → ∀ h : z < 5, (f.lists[z]'h) = (g.lists[z]'h)) := fun z hz hz5 => by
       rcases (by omega : z < k ∨ z = k) with hz | rfl
       · exact HK.out z hz hz5
       · exact HEK.out.1 rfl
      clear HEK HK
      go_wp2
      go_roundw
      case rel => exact ⟨k + 1, by omega, by go_num, HK2, HB4.out⟩
      case measure => simp [intOf]; omega
  · have HALL : Hid (∀ z (h : z < 5), (f.lists[z]'h) = (g.lists[z]'h)) := fun z hz => HK.out z (by omega) hz
    have HBK := Hi hbr
    clear HK hbr
    iterate 22 go_step
    obtain ⟨x71, H71⟩ := xv (.pointer (some ⟨w.heap.size, 9, none⟩))
    obtain ⟨x72, H72⟩ := xv (.int .i64 f.tl)
    obtain ⟨x73, H73⟩ := xv (.pointer (some ⟨(w.heap.size + 1), 9, none⟩))
    obtain ⟨x74, H74⟩ := xv (.int .i64 g.tl)
    obtain ⟨x75, H75⟩ := xv (.bool ((f.tl : Int) != g.tl))
    obtain ⟨x76, H76⟩ := xv (.bool ((f.tl : Int) != g.tl))
    obtain ⟨x77, H77⟩ := xv (bif (((f.tl : Int) != g.tl) == false) then .pointer (some ⟨w.heap.size, 10, none⟩) else undef)
    obtain ⟨x78, H78⟩ := xv (bif (((f.tl : Int) != g.tl) == false) then .int .i64 f.zx else undef)
    obtain ⟨x79, H79⟩ := xv (bif (((f.tl : Int) != g.tl) == false) then .pointer (some ⟨(w.heap.size + 1), 10, none⟩) else undef)
    obtain ⟨x80, H80⟩ := xv (bif (((f.tl : Int) != g.tl) == false) then .int .i64 g.zx else undef)
    obtain ⟨x81, H81⟩ := xv (bif (((f.tl : Int) != g.tl) == false) then .bool ((f.zx : Int) != g.zx) else undef)
    obtain ⟨x82, H82⟩ := xv (.bool (Oq5P1 f g))
    obtain ⟨x83, H83⟩ := xv (.bool (Oq5P1 f g))
    obtain ⟨x84, H84⟩ := xv (bif ((Oq5P1 f g) == false) then .pointer (some ⟨w.heap.size, 7, none⟩) else undef)
    obtain ⟨x85, H85⟩ := xv (bif ((Oq5P1 f g) == false) then .int .i64 f.ct else undef)
    obtain ⟨x86, H86⟩ := xv (bif ((Oq5P1 f g) == false) then .pointer (some ⟨(w.heap.size + 1), 7, none⟩) else undef)
    obtain ⟨x87, H87⟩ := xv (bif ((Oq5P1 f g) == false) then .int .i64 g.ct else undef)
    obtain ⟨x88, H88⟩ := xv (bif ((Oq5P1 f g) == false) then .bool ((f.ct : Int) != g.ct) else undef)
    obtain ⟨x89, H89⟩ := xv (.bool (Oq5P3 f g))
    obtain ⟨x90, H90⟩ := xv (.bool (Oq5P3 f g))
    obtain ⟨x91, H91⟩ := xv (bif ((Oq5P3 f g) == false) then .pointer (some ⟨w.heap.size, 8, none⟩) else undef)
    obtain ⟨x92, H92⟩ := xv (bif ((Oq5P3 f g) == false) then .int .i64 f.by_ else undef)
    obtain ⟨x93, H93⟩ := xv (bif ((Oq5P3 f g) == false) then .pointer (some ⟨(w.heap.size + 1), 8, none⟩) else undef)
    obtain ⟨x94, H94⟩ := xv (bif ((Oq5P3 f g) == false) then .int .i64 g.by_ else undef)
    obtain ⟨x95, H95⟩ := xv (bif ((Oq5P3 f g) == false) then .bool ((f.by_ : Int) != g.by_) else undef)
    obtain ⟨x96, H96⟩ := xv (.bool (Oq5P7 f g))
    obtain ⟨x97, H97⟩ := xv (.bool (Oq5P7 f g))
    obtain ⟨x98, H98⟩ := xv (bif ((Oq5P7 f g) == false) then .pointer (some ⟨w.heap.size, 16, none⟩) else undef)
    obtain ⟨x99, H99⟩ := xv (bif ((Oq5P7 f g) == false) then .int .i32 f.to else undef)
    obtain ⟨x100, H100⟩ := xv (bif ((Oq5P7 f g) == false) then .pointer (some ⟨(w.heap.size + 1), 16, none⟩) else undef)
    obtain ⟨x101, H101⟩ := xv (bif ((Oq5P7 f g) == false) then .int .i32 g.to else undef)
    obtain ⟨x102, H102⟩ := xv (bif ((Oq5P7 f g) == false) then .bool ((f.to : Int) != g.to) else undef)
    obtain ⟨x103, H103⟩ := xv (.bool (Oq5P10 f g))
    obtain ⟨x104, H104⟩ := xv (.bool (Oq5P10 f g))
    obtain ⟨x105, H105⟩ := xv (bif ((Oq5P10 f g) == false) then .pointer (some ⟨w.heap.size, 17, none⟩) else undef)
    obtain ⟨x106, H106⟩ := xv (bif ((Oq5P10 f g) == false) then .slice i.A i.n i.c else undef)
    obtain ⟨x107, H107⟩ := xv (bif ((Oq5P10 f g) == false) then .pointer (some ⟨(w.heap.size + 1), 17, none⟩) else undef)
    obtain ⟨x108, H108⟩ := xv (bif ((Oq5P10 f g) == false) then .slice i'.A i'.n i'.c else undef)
    obtain ⟨x109, H109⟩ := xv (bif ((Oq5P10 f g) == false) then .bool ei else undef)
    obtain ⟨x110, H110⟩ := xv (bif ((Oq5P10 f g) == false) then .bool (!ei) else undef)
    obtain ⟨x111, H111⟩ := xv (.bool ((Oq5P10 f g) || (!ei)))
    obtain ⟨x112, H112⟩ := xv (.bool ((Oq5P10 f g) || (!ei)))
    obtain ⟨x113, H113⟩ := xv (bif (Oq5P13 f g ei) then .pointer (some ⟨w.heap.size, 18, none⟩) else undef)
    obtain ⟨x114, H114⟩ := xv (bif (Oq5P13 f g ei) then .slice s.A s.n s.c else undef)
    obtain ⟨x115, H115⟩ := xv (bif (Oq5P13 f g ei) then .int .i64 (s.n : Int) else undef)
    obtain ⟨x116, H116⟩ := xv (bif (Oq5P13 f g ei) then .pointer (some ⟨(w.heap.size + 1), 18, none⟩) else undef)
    obtain ⟨x117, H117⟩ := xv (bif (Oq5P13 f g ei) then .slice s'.A s'.n s'.c else undef)
    obtain ⟨x118, H118⟩ := xv (bif (Oq5P13 f g ei) then .int .i64 (s'.n : Int) else undef)
    obtain ⟨x119, H119⟩ := xv (bif (Oq5P13 f g ei) then .bool (((s.n : Int) : Int) != (s'.n : Int)) else undef)
    refine wpList_seq (w0 := wr) (.inl x71 ::
     .inl x72 ::
     .inl x73 ::
     .inl x74 ::
     .inl x75 ::
     .inl x76 ::
     .inl x77 ::
     .inl x78 ::
     .inl x79 ::
     .inl x80 ::
     .inl x81 ::
     .inl x82 ::
     .inl x83 ::
     .inl x84 ::
     .inl x85 ::
     .inl x86 ::
     .inl x87 ::
     .inl x88 ::
     .inl x89 ::
     .inl x90 ::
     .inl x91 ::
     .inl x92 ::
     .inl x93 ::
     .inl x94 ::
     .inl x95 ::
     .inl x96 ::
     .inl x97 ::
     .inl x98 ::
     .inl x99 ::
     .inl x100 ::
     .inl x101 ::
     .inl x102 ::
     .inl x103 ::
     .inl x104 ::
     .inl x105 ::
     .inl x106 ::
     .inl x107 ::
     .inl x108 ::
     .inl x109 ::
     .inl x110 ::
     .inl x111 ::
     .inl x112 ::
     .inl x113 ::
     .inl x114 ::
     .inl x115 ::
     .inl x116 ::
     .inl x117 ::
     .inl x118 ::
     .inl x119 ::
     .inl (.bool (Oq5P16 f g ei s s')) :: []) rfl (by kernel_rfl) (by kernel_rfl) (nomono rfl) ⟨fun ac W hb o q K hK => op_u (u := .pointer (some ⟨w.heap.size, 9, none⟩)) rfl (r_field 29 _ 9 rfl (yA (hO o 2)) zU29 rfl (n := 0) isz_2 rfl) (kH hK H71),
     fun ac W hb o q K hK => op_u (u := .int .i64 f.tl) rfl (r_load 2 _ rfl (yA (dQ q 0 71 H71)) (yC (HSr.out.below hb HSr.out.lt) 9 rfl) zU2 rfl) (kH hK H72),
     fun ac W hb o q K hK => op_u (u := .pointer (some ⟨(w.heap.size + 1), 9, none⟩)) rfl (r_field 29 _ 9 rfl (yA (hO o 3)) zU29 rfl (n := 0) isz_2 rfl) (kH hK H73),
     fun ac W hb o q K hK => op_u (u := .int .i64 g.tl) rfl (r_load 2 _ rfl (yA (dQ q 2 73 H73)) (yC (HTr.out.below hb HTr.out.lt) 9 rfl) zU2 rfl) (kH hK H74),
     fun ac W hb o q K hK => op_u (u := .bool ((f.tl : Int) != g.tl)) rfl (r_ine 2 _ _ _ rfl (yA (dQ q 1 72 H72)) (yA (dQ q 3 74 H74))) (kH hK H75),
     fun ac W hb o q K hK => op_u (u := .bool ((f.tl : Int) != g.tl)) rfl (r_move _ rfl (yA (dQ q 4 75 H75))) (kH hK H76),
     fun ac W hb o q K hK => op_g (u := .pointer (some ⟨w.heap.size, 10, none⟩)) (wQ (dQ q 5 76 H76)) (fun hc => r_field 29 _ 10 rfl (yA (hO o 2)) zU29 rfl (n := 0) isz_2 rfl) (kH hK H77),
     fun ac W hb o q K hK => op_g (u := .int .i64 f.zx) (wQ (dQ q 5 76 H76)) (fun hc => r_load 2 _ rfl (yB (dQ q 6 77 H77) hc) (yC (HSr.out.below hb HSr.out.lt) 10 rfl) zU2 rfl) (kH hK H78),
     fun ac W hb o q K hK => op_g (u := .pointer (some ⟨(w.heap.size + 1), 10, none⟩)) (wQ (dQ q 5 76 H76)) (fun hc => r_field 29 _ 10 rfl (yA (hO o 3)) zU29 rfl (n := 0) isz_2 rfl) (kH hK H79),
     fun ac W hb o q K hK => op_g (u := .int .i64 g.zx) (wQ (dQ q 5 76 H76)) (fun hc => r_load 2 _ rfl (yB (dQ q 8 79 H79) hc) (yC (HTr.out.below hb HTr.out.lt) 10 rfl) zU2 rfl) (kH hK H80),
     fun ac W hb o q K hK => op_g (u := .bool ((f.zx : Int) != g.zx)) (wQ (dQ q 5 76 H76)) (fun hc => r_ine 2 _ _ _ rfl (yB (dQ q 7 78 H78) hc) (yB (dQ q 9 80 H80) hc)) (kH hK H81),
     fun ac W hb o q K hK => op_u (u := .bool (Oq5P1 f g)) rfl (r_or _ _ _ rfl (yA (dQ q 5 76 H76)) rfl (fun hb => yB (dQ q 10 81 H81) (by simp [hb]))) (kH hK H82),
     fun ac W hb o q K hK => op_u (u := .bool (Oq5P1 f g)) rfl (r_move _ rfl (yA (dQ q 11 82 H82))) (kH hK H83),
     fun ac W hb o q K hK => op_g (u := .pointer (some ⟨w.heap.size, 7, none⟩)) (wQ (dQ q 12 83 H83)) (fun hc => r_field 29 _ 7 rfl (yA (hO o 2)) zU29 rfl (n := 0) isz_2 rfl) (kH hK H84),
     fun ac W hb o q K hK => op_g (u := .int .i64 f.ct) (wQ (dQ q 12 83 H83)) (fun hc => r_load 2 _ rfl (yB (dQ q 13 84 H84) hc) (yC (HSr.out.below hb HSr.out.lt) 7 rfl) zU2 rfl) (kH hK H85),
     fun ac W hb o q K hK => op_g (u := .pointer (some ⟨(w.heap.size + 1), 7, none⟩)) (wQ (dQ q 12 83 H83)) (fun hc => r_field 29 _ 7 rfl (yA (hO o 3)) zU29 rfl (n := 0) isz_2 rfl) (kH hK H86),
     fun ac W hb o q K hK => op_g (u := .int .i64 g.ct) (wQ (dQ q 12 83 H83)) (fun hc => r_load 2 _ rfl (yB (dQ q 15 86 H86) hc) (yC (HTr.out.below hb HTr.out.lt) 7 rfl) zU2 rfl) (kH hK H87),
     fun ac W hb o q K hK => op_g (u := .bool ((f.ct : Int) != g.ct)) (wQ (dQ q 12 83 H83)) (fun hc => r_ine 2 _ _ _ rfl (yB (dQ q 14 85 H85) hc) (yB (dQ q 16 87 H87) hc)) (kH hK H88),
     fun ac W hb o q K hK => op_u (u := .bool (Oq5P3 f g)) rfl (r_or _ _ _ rfl (yA (dQ q 12 83 H83)) rfl (fun hb => yB (dQ q 17 88 H88) (by simp [hb]))) (kH hK H89),
     fun ac W hb o q K hK => op_u (u := .bool (Oq5P3 f g)) rfl (r_move _ rfl (yA (dQ q 18 89 H89))) (kH hK H90),
     fun ac W hb o q K hK => op_g (u := .pointer (some ⟨w.heap.size, 8, none⟩)) (wQ (dQ q 19 90 H90)) (fun hc => r_field 29 _ 8 rfl (yA (hO o 2)) zU29 rfl (n := 0) isz_2 rfl) (kH hK H91),
     fun ac W hb o q K hK => op_g (u := .int .i64 f.by_) (wQ (dQ q 19 90 H90)) (fun hc => r_load 2 _ rfl (yB (dQ q 20 91 H91) hc) (yC (HSr.out.below hb HSr.out.lt) 8 rfl) zU2 rfl) (kH hK H92),
     fun ac W hb o q K hK => op_g (u := .pointer (some ⟨(w.heap.size + 1), 8, none⟩)) (wQ (dQ q 19 90 H90)) (fun hc => r_field 29 _ 8 rfl (yA (hO o 3)) zU29 rfl (n := 0) isz_2 rfl) (kH hK H93),
     fun ac W hb o q K hK => op_g (u := .int .i64 g.by_) (wQ (dQ q 19 90 H90)) (fun hc => r_load 2 _ rfl (yB (dQ q 22 93 H93) hc) (yC (HTr.out.below hb HTr.out.lt) 8 rfl) zU2 rfl) (kH hK H94),
     fun ac W hb o q K hK => op_g (u := .bool ((f.by_ : Int) != g.by_)) (wQ (dQ q 19 90 H90)) (fun hc => r_ine 2 _ _ _ rfl (yB (dQ q 21 92 H92) hc) (yB (dQ q 23 94 H94) hc)) (kH hK H95),
     fun ac W hb o q K hK => op_u (u := .bool (Oq5P7 f g)) rfl (r_or _ _ _ rfl (yA (dQ q 19 90 H90)) rfl (fun hb => yB (dQ q 24 95 H95) (by simp [hb]))) (kH hK H96),
     fun ac W hb o q K hK => op_u (u := .bool (Oq5P7 f g)) rfl (r_move _ rfl (yA (dQ q 25 96 H96))) (kH hK H97),
     fun ac W hb o q K hK => op_g (u := .pointer (some ⟨w.heap.size, 16, none⟩)) (wQ (dQ q 26 97 H97)) (fun hc => r_field 29 _ 12 rfl (yA (hO o 2)) zU29 rfl (n := 0) isz_21 rfl) (kH hK H98),
     fun ac W hb o q K hK => op_g (u := .int .i32 f.to) (wQ (dQ q 26 97 H97)) (fun hc => r_load 21 _ rfl (yB (dQ q 27 98 H98) hc) (yC (HSr.out.below hb HSr.out.lt) 16 rfl) zU21 rfl) (kH hK H99),
     fun ac W hb o q K hK => op_g (u := .pointer (some ⟨(w.heap.size + 1), 16, none⟩)) (wQ (dQ q 26 97 H97)) (fun hc => r_field 29 _ 12 rfl (yA (hO o 3)) zU29 rfl (n := 0) isz_21 rfl) (kH hK H100),
     fun ac W hb o q K hK => op_g (u := .int .i32 g.to) (wQ (dQ q 26 97 H97)) (fun hc => r_load 21 _ rfl (yB (dQ q 29 100 H100) hc) (yC (HTr.out.below hb HTr.out.lt) 16 rfl) zU21 rfl) (kH hK H101),
     fun ac W hb o q K hK => op_g (u := .bool ((f.to : Int) != g.to)) (wQ (dQ q 26 97 H97)) (fun hc => r_ine 21 _ _ _ rfl (yB (dQ q 28 99 H99) hc) (yB (dQ q 30 101 H101) hc)) (kH hK H102),
     fun ac W hb o q K hK => op_u (u := .bool (Oq5P10 f g)) rfl (r_or _ _ _ rfl (yA (dQ q 26 97 H97)) rfl (fun hb => yB (dQ q 31 102 H102) (by simp [hb]))) (kH hK H103),
     fun ac W hb o q K hK => op_u (u := .bool (Oq5P10 f g)) rfl (r_move _ rfl (yA (dQ q 32 103 H103))) (kH hK H104),
     fun ac W hb o q K hK => op_g (u := .pointer (some ⟨w.heap.size, 17, none⟩)) (wQ (dQ q 33 104 H104)) (fun hc => r_field 29 _ 13 rfl (yA (hO o 2)) zU29 rfl (n := 0) isz_26 rfl) (kH hK H105),
     fun ac W hb o q K hK => op_g (u := .slice i.A i.n i.c) (wQ (dQ q 33 104 H104)) (fun hc => r_load 26 _ rfl (yB (dQ q 34 105 H105) hc) (yC (HSr.out.below hb HSr.out.lt) 17 rfl) zU26 rfl) (kH hK H106),
     fun ac W hb o q K hK => op_g (u := .pointer (some ⟨(w.heap.size + 1), 17, none⟩)) (wQ (dQ q 33 104 H104)) (fun hc => r_field 29 _ 13 rfl (yA (hO o 3)) zU29 rfl (n := 0) isz_26 rfl) (kH hK H107),
     fun ac W hb o q K hK => op_g (u := .slice i'.A i'.n i'.c) (wQ (dQ q 33 104 H104)) (fun hc => r_load 26 _ rfl (yB (dQ q 36 107 H107) hc) (yC (HTr.out.below hb HTr.out.lt) 17 rfl) zU26 rfl) (kH hK H108),
     fun ac W hb o q K hK => op_call (u := .bool ei) (wQ (dQ q 33 104 H104)) 33 _ _ rfl (#[.slice i.A i.n i.c, .slice i'.A i'.n i'.c]) (fun hc => by simp [(yB (dQ q 35 106 H106) hc), (yB (dQ q 37 108 H108) hc)]) Tryd.func33 (by kernel_rfl) (by kernel_rfl) (fun hc => CI.out W (HBr.out.trans (hb.mono HBr.out.size))) (fun w' hbl => hK _ _ H109.out.symm hbl),
     fun ac W hb o q K hK => op_g (u := .bool (!ei)) (wQ (dQ q 33 104 H104)) (fun hc => r_not _ _ rfl (yB (dQ q 38 109 H109) hc)) (kH hK H110),
     fun ac W hb o q K hK => op_u (u := .bool ((Oq5P10 f g) || (!ei))) rfl (r_or _ _ _ rfl (yA (dQ q 33 104 H104)) rfl (fun hb => yB (dQ q 39 110 H110) (by simp [hb]))) (kH hK H111),
     fun ac W hb o q K hK => op_u (u := .bool ((Oq5P10 f g) || (!ei))) rfl (r_move _ rfl (yA (dQ q 40 111 H111))) (kH hK H112),
     fun ac W hb o q K hK => op_g (u := .pointer (some ⟨w.heap.size, 18, none⟩)) (wQ (dQ q 41 112 H112)) (fun hc => r_field 29 _ 14 rfl (yA (hO o 2)) zU29 rfl (n := 0) isz_27 rfl) (kH hK H113),
     fun ac W hb o q K hK => op_g (u := .slice s.A s.n s.c) (wQ (dQ q 41 112 H112)) (fun hc => r_load 27 _ rfl (yB (dQ q 42 113 H113) hc) (yC (HSr.out.below hb HSr.out.lt) 18 rfl) zU27 rfl) (kH hK H114),
     fun ac W hb o q K hK => op_g (u := .int .i64 (s.n : Int)) (wQ (dQ q 41 112 H112)) (fun hc => r_len #[] #[] _ 27 rfl (yB (dQ q 43 114 H114) hc) zU27) (kH hK H115),
     fun ac W hb o q K hK => op_g (u := .pointer (some ⟨(w.heap.size + 1), 18, none⟩)) (wQ (dQ q 41 112 H112)) (fun hc => r_field 29 _ 14 rfl (yA (hO o 3)) zU29 rfl (n := 0) isz_27 rfl) (kH hK H116),
     fun ac W hb o q K hK => op_g (u := .slice s'.A s'.n s'.c) (wQ (dQ q 41 112 H112)) (fun hc => r_load 27 _ rfl (yB (dQ q 45 116 H116) hc) (yC (HTr.out.below hb HTr.out.lt) 18 rfl) zU27 rfl) (kH hK H117),
     fun ac W hb o q K hK => op_g (u := .int .i64 (s'.n : Int)) (wQ (dQ q 41 112 H112)) (fun hc => r_len #[] #[] _ 27 rfl (yB (dQ q 46 117 H117) hc) zU27) (kH hK H118),
     fun ac W hb o q K hK => op_g (u := .bool (((s.n : Int) : Int) != (s'.n : Int))) (wQ (dQ q 41 112 H112)) (fun hc => r_ine 3 _ _ _ rfl (yB (dQ q 44 115 H115) hc) (yB (dQ q 47 118 H118) hc)) (kH hK H119),
     fun ac W hb o q K hK => op_u (u := .bool (Oq5P16 f g ei s s')) rfl (r_or _ _ _ rfl (yA (dQ q 41 112 H112)) rfl (fun hb => yB (dQ q 48 119 H119) (by simp [hb]))) (kR hK), trivial⟩ ?_
    intro w3 hb3
    simp only [Fin, Act.put, zD, zA, zB]
    clear H71 H72 H73 H74 H75 H76 H77 H78 H79 H80 H81 H82 H83 H84 H85 H86 H87 H88 H89 H90 H91 H92 H93 H94 H95 H96 H97 H98 H99 H100 H101 H102 H103 H104 H105 H106 H107 H108 H109 H110 H111 H112 H113 H114 H115 H116 H117 H118 H119
    have HB3 := Hi (HBr.out.trans (hb3.mono HBr.out.size))
    have HB4 := Hi (HBK.out.trans (hb3.mono HBK.out.size))
    clear hb3
    cases hq2 : (Oq5P16 f g ei s s')
    rotate_left
    · have hbf : b = false := HN2.out fun e => by
       exact absurd ((E2.out.2 e).symm.trans hq2) (by decide)
      subst hbf
      clear hq2 E1 E2
      go_wp2
      go_ret
      exact ⟨rfl, HB3.out⟩
    have HP2 := Hi (E2.out.1 hq2)
    have hnn : s.n = s'.n := by have h1 := HP2.out.2.2.2.2.2.2; rw [HH.out.len, HH'.out.len] at h1; exact h1
    have HNN := Hi hnn
    clear hq2 E1 E2 hnn
    go_wp2
    go_loopw [6] (fun k' wr => ∃ j : Nat, j ≤ s.n ∧ k' = .int .i64 j ∧ Hid (∀ z, z < j → bs z = true) ∧ Below w1.heap.size w1 wr) (fun k' _ => s.n - (intOf k').toNat)
    case atStart => exact ⟨0, Nat.zero_le _, rfl, (by intro z hz; omega), HB4.out⟩
    case round =>
     clear HB3 HB4 HBr HBK HSr HTr
     obtain ⟨j, hj, rfl, HK, hbr⟩ := hrel
     have HBr := Hi (HB1.out.trans (hbr.mono HB1.out.size))
     have HBK := Hi hbr
     have HSj := Hi (HS.out.below hbr HS.out.lt)
     have HTj := Hi (HT.out.below hbr HT.out.lt)
     have c18 := yC HSj.out 18 (u := .slice s.A s.n s.c) rfl
     by_cases hlt : j < s.n
     · have hj1 : j < Q.length := by rw [HH.out.len]; exact hlt
       have hj2 : j < Q'.length := by rw [HH'.out.len, ← HNN.out]; exact hlt
       obtain ⟨ad, hA, hr1⟩ := subs_cells (HH.out.reads.below HBr.out) HQ.out hj1 HH.out.len
       obtain ⟨ad', hA', hr2⟩ := subs_cells (HH'.out.reads.below HBr.out) HQ'.out hj2 HH'.out.len
       have hl1 := HQ.out _ (List.getElem_mem hj1)
       have hl2 := HQ'.out _ (List.getElem_mem hj2)
       have hc := HIH.out j hj1 hj2
       have HN := Hi (HN4.out j hj1 hj2)
       obtain ⟨rc, hrc⟩ : ∃ r, r = (Q[j]).2 := ⟨_, rfl⟩
       obtain ⟨rd, hrd⟩ : ∃ r, r = (Q'[j]).2 := ⟨_, rfl⟩
       obtain ⟨bj, hbj⟩ : ∃ r, r = bs j := ⟨_, rfl⟩
       rw [← hrc] at hr1 hl1 hc
       rw [← hrd] at hr2 hl2 hc
       rw [← hbj] at hc HN
       have HBJ := Hi hbj
       have CR1 : Hid (∀ {W}, Below wr.heap.size wr W → ∀ k v, rc[k]? = some v → W.cell? ((ad.add (j * 19)).add k) = some v) := fun {W} hW k v hk => by
        have h1 := hr1 k v hk
        have hlt' := cell_lt h1
        exact (hW.cell hlt').trans h1
       have CR2 : Hid (∀ {W}, Below wr.heap.size wr W → ∀ k v, rd[k]? = some v → W.cell? ((ad'.add (j * 19)).add k) = some v) := fun {W} hW k v hk => by
        have h1 := hr2 k v hk
        have hlt' := cell_lt h1
        exact (hW.cell hlt').trans h1
       have ZR1 : Hid ((Tryd.prog.info? 29).map (·.size) = some rc.length) := by unfold Hid; rw [hl1]; exact isz_29
       have ZR2 : Hid ((Tryd.prog.info? 29).map (·.size) = some rd.length) := by unfold Hid; rw [hl2]; exact isz_29
       have CJ : Hid (∀ W, Below wr.heap.size wr W → Calls Tryd.prog 14 #[.agg rc.toArray, .agg rd.toArray] W fun e w' => e = .returned (.bool bj) ∧ Below W.heap.size W w') := fun W hW => hc W (HBr.out.trans (hW.mono HBr.out.size))
       have CS : Hid (∀ {W}, Below wr.heap.size wr W → W.cell? ⟨w.heap.size, 18, none⟩ = some (.slice (some ad) s.n s.c)) := fun {W} hW => by rw [← hA]; exact yC (HSj.out.below hW HSj.out.lt) 18 rfl
       have CT : Hid (∀ {W}, Below wr.heap.size wr W → W.cell? ⟨(w.heap.size + 1), 18, none⟩ = some (.slice (some ad') s.n s'.c)) := fun {W} hW => by rw [← hA', HNN.out]; exact yC (HTj.out.below hW HTj.out.lt) 18 rfl
       clear hr1 hr2 hl1 hl2 hc hrc hrd hbj hj1 hj2 hbr
       go_wp2_with (fail)
       obtain ⟨x128, H128⟩ := xv (.pointer (some ⟨w.heap.size, 18, none⟩))
       obtain ⟨x129, H129⟩ := xv (.slice (some ad) s.n s.c)
       obtain ⟨x130, H130⟩ := xv (.int .i64 (j : Int))
       obtain ⟨x131, H131⟩ := xv (.pointer (some (ad.add (j * 19))))
       obtain ⟨x132, H132⟩ := xv (.agg rc.toArray)
       obtain ⟨x133, H133⟩ := xv (.pointer (some ⟨(w.heap.size + 1), 18, none⟩))
       obtain ⟨x134, H134⟩ := xv (.slice (some ad') s.n s'.c)
       obtain ⟨x135, H135⟩ := xv (.int .i64 (j : Int))
       obtain ⟨x136, H136⟩ := xv (.pointer (some (ad'.add (j * 19))))
       obtain ⟨x137, H137⟩ := xv (.agg rd.toArray)
       obtain ⟨x138, H138⟩ := xv (.bool bj)
       refine wp_region_ord (w0 := wr) (.inl x128 ::
        .inl x129 ::
        .inl x130 ::
        .inl x131 ::
        .inl x132 ::
        .inl x133 ::
        .inl x134 ::
        .inl x135 ::
        .inl x136 ::
        .inl x137 ::
        .inl x138 ::
        .inl (.bool (!bj)) :: []) rfl (by kernel_rfl) (by kernel_rfl) (by kernel_rfl) (by kernel_rfl) (nomono rfl) ⟨fun ac W hb o q K hK => op_u (u := .pointer (some ⟨w.heap.size, 18, none⟩)) rfl (r_field 29 _ 14 rfl (yA (hO o 2)) zU29 rfl (n := 0) isz_27 rfl) (kH hK H128),
        fun ac W hb o q K hK => op_u (u := .slice (some ad) s.n s.c) rfl (r_load 27 _ rfl (yA (dE q 0 128 H128)) (CS.out hb) zU27 rfl) (kH hK H129),
        fun ac W hb o q K hK => op_u (u := .int .i64 (j : Int)) rfl (r_move _ rfl (yA (hO o 6))) (kH hK H130),
        fun ac W hb o q K hK => op_u (u := .pointer (some (ad.add (j * 19)))) rfl (r_index 27 _ _ rfl (yA (dE q 1 129 H129)) (yA (dE q 2 130 H130)) hlt zU27 isz_29 rfl) (kH hK H131),
        fun ac W hb o q K hK => op_u (u := .agg rc.toArray) rfl (r_load_row 29 _ rfl (yA (dE q 3 131 H131)) rc (CR1.out hb) zU29 rfl ZR1.out) (kH hK H132),
        fun ac W hb o q K hK => op_u (u := .pointer (some ⟨(w.heap.size + 1), 18, none⟩)) rfl (r_field 29 _ 14 rfl (yA (hO o 3)) zU29 rfl (n := 0) isz_27 rfl) (kH hK H133),
        fun ac W hb o q K hK => op_u (u := .slice (some ad') s.n s'.c) rfl (r_load 27 _ rfl (yA (dE q 5 133 H133)) (CT.out hb) zU27 rfl) (kH hK H134),
        fun ac W hb o q K hK => op_u (u := .int .i64 (j : Int)) rfl (r_move _ rfl (yA (hO o 6))) (kH hK H135),
        fun ac W hb o q K hK => op_u (u := .pointer (some (ad'.add (j * 19)))) rfl (r_index 27 _ _ rfl (yA (dE q 6 134 H134)) (yA (dE q 7 135 H135)) hlt zU27 isz_29 rfl) (kH hK H136),
        fun ac W hb o q K hK => op_u (u := .agg rd.toArray) rfl (r_load_row 29 _ rfl (yA (dE q 8 136 H136)) rd (CR2.out hb) zU29 rfl ZR2.out) (kH hK H137),
        fun ac W hb o q K hK => op_call (u := .bool bj) (c := true) (want_free rfl) 14 _ _ rfl (#[.agg rc.toArray, .agg rd.toArray]) (fun hc => by simp [(yA (dE q 4 132 H132)), (yA (dE q 9 137 H137))]) Tryd.func14 (by kernel_rfl) (by kernel_rfl) (fun hc => CJ.out W hb) (fun w' hbl => hK _ _ H138.out.symm hbl),
        fun ac W hb o q K hK => op_u (u := .bool (!bj)) rfl (r_not _ _ rfl (yA (dE q 10 138 H138))) (kR hK), trivial⟩ ?_
       intro w3 hb3
       simp only [Fin, Act.put, zD, zA, zB]
       clear H128 H129 H130 H131 H132 H133 H134 H135 H136 H137 H138
       have HB3 := Hi (HBr.out.trans (hb3.mono HBr.out.size))
       have HB4 := Hi (HBK.out.trans (hb3.mono HBK.out.size))
       clear hb3
       cases bj
       · have hbf : b = false := HN.out rfl
         subst hbf
         go_wp2
         go_ret
         exact ⟨rfl, HB3.out⟩
       · have HK2 : Hid (∀ z, z < j + 1 → bs z = true) := fun z hz => by
          rcases (by omega : z < j ∨ z = j) with hz | rfl
          · exact HK.out z hz
          · exact HBJ.out.symm
         clear HN HBJ HK
         go_wp2
         go_roundw
         case rel => exact ⟨j + 1, by omega, by go_num, HK2, HB4.out⟩
         case measure => simp [intOf]; omega
     · have hbt : b = true := HY.out HP1.out (fun k h => HALL.out k h) HP2.out (fun z hz => HK.out z (by have := HH.out.len; omega))
       subst hbt
       clear HK hbr
       go_wp2
       go_ret
       exact ⟨rfl, HBr.out⟩
theorem lists_ext {f g : OpF} : (∀ k (h : k < 5), (f.lists[k]'h) = (g.lists[k]'h)) ↔ (f.K0 = g.K0 ∧ f.K1 = g.K1 ∧ f.K2 = g.K2 ∧ f.K3 = g.K3 ∧ f.K4 = g.K4) := by
 constructor
 · intro h
   exact ⟨h 0 (by decide), h 1 (by decide), h 2 (by decide), h 3 (by decide), h 4 (by decide)⟩
 · rintro ⟨h0, h1, h2, h3, h4⟩ k hk
   rcases (by omega : k = 0 ∨ k = 1 ∨ k = 2 ∨ k = 3 ∨ k = 4) with rfl | rfl | rfl | rfl | rfl
   · exact h0
   · exact h1
   · exact h2
   · exact h3
   · exact h4
theorem OpF.ext' {f g : OpF} (h1 : f.t = g.t ∧ f.p = g.p ∧ f.l = g.l ∧ f.L = g.L ∧ f.fl = g.fl ∧ f.ve = g.ve ∧ f.wa = g.wa) (h2 : f.tl = g.tl ∧ f.zx = g.zx ∧ f.ct = g.ct ∧ f.by_ = g.by_ ∧ f.to = g.to ∧ f.I = g.I) (h3 : f.K0 = g.K0 ∧ f.K1 = g.K1 ∧ f.K2 = g.K2 ∧ f.K3 = g.K3 ∧ f.K4 = g.K4) : f = g := by
 obtain ⟨_, _, _, _, _, _, _, _, _, _, _, _, _, _, _, _, _, _⟩ := f
 obtain ⟨_, _, _, _, _, _, _, _, _, _, _, _, _, _, _, _, _, _⟩ := g
 simp_all
theorem same_any {w : World} {lo : Option Nat} {x : OpC} {cs : List Value} (hx : At w lo x cs) : ∀ {lo' : Option Nat} {y : OpC} {ds : List Value}, At w lo' y ds →
 ∃ b : Bool, (b = true ↔ x = y) ∧ ∀ W, Below w.heap.size w W → Calls Tryd.prog 14 #[.agg cs.toArray, .agg ds.toArray] W fun e w' => e = .returned (.bool b) ∧ Below W.heap.size W w' := by
 induction hx with
 | mk f d a k0 k1 k2 k3 k4 i s Q ok hd ha hk0 hk1 hk2 hk3 hk4 hi hs hQ ih =>
   intro lo' y ds hy
   cases hy with
   | mk g d' a' k0' k1' k2' k3' k4' i' s' Q' ok' hd' ha' hk0' hk1' hk2' hk3' hk4' hi' hs' hQ' =>
     have hbs : ∀ j, ∃ bj : Bool, ∀ (h : j < Q.length) (h' : j < Q'.length), (bj = true ↔ (Q[j]).1 = (Q'[j]).1) ∧ ∀ W, Below w.heap.size w W → Calls Tryd.prog 14 #[.agg (Q[j]).2.toArray, .agg (Q'[j]).2.toArray] W fun e w' => e = .returned (.bool bj) ∧ Below W.heap.size W w' := by
      intro j
      by_cases h : j < Q.length ∧ j < Q'.length
      · obtain ⟨bj, h1, h2⟩ := ih _ (List.getElem_mem h.1) (hQ' _ (List.getElem_mem h.2))
        exact ⟨bj, fun _ _ => ⟨h1, h2⟩⟩
      · exact ⟨true, fun h1 h2 => absurd ⟨h1, h2⟩ h⟩
     obtain ⟨bs, hbs⟩ := Classical.axiomOfChoice hbs
     obtain ⟨b, hb⟩ : ∃ b : Bool, (b = true ↔ OpC.mk f (Q.map Prod.fst) = OpC.mk g (Q'.map Prod.fst)) := ⟨@decide (OpC.mk f (Q.map Prod.fst) = OpC.mk g (Q'.map Prod.fst)) (Classical.propDecidable _), @decide_eq_true_iff _ (Classical.propDecidable _)⟩
     have hno : ¬ (OpC.mk f (Q.map Prod.fst) = OpC.mk g (Q'.map Prod.fst)) → b = false := fun h => by
      cases b
      · rfl
      · exact absurd (hb.1 rfl) h
     have hmap : ∀ j (h : j < Q.length) (h' : j < Q'.length), Q.map Prod.fst = Q'.map Prod.fst → (Q[j]).1 = (Q'[j]).1 := fun j h h' e => by
      have h1 : (Q.map Prod.fst)[j]? = (Q'.map Prod.fst)[j]? := by rw [e]
      simpa [h, h'] using h1
     refine ⟨b, hb, fun W hW => ?_⟩
     have F : FAt W lo f d a k0 k1 k2 k3 k4 i := ⟨hd.later hW, ha.later hW, hk0.later hW, hk1.later hW, hk2.later hW, hk3.later hW, hk4.later hW, hi.later hW⟩
     have F' : FAt W lo' g d' a' k0' k1' k2' k3' k4' i' := ⟨hd'.later hW, ha'.later hW, hk0'.later hW, hk1'.later hW, hk2'.later hW, hk3'.later hW, hk4'.later hW, hi'.later hW⟩
     refine same_walk f g d a k0 k1 k2 k3 k4 i s d' a' k0' k1' k2' k3' k4' i' s' Q Q' bs b W F F' (hs.later hW) (hs'.later hW) (fun q hq => (hQ q hq).len) (fun q hq => (hQ' q hq).len)
      (fun j h h' W' hW' => (hbs j h h').2 W' (hW.trans (hW'.mono hW.size))) ?_ ?_ ?_ ?_ ?_ _ _ rfl rfl
     · exact fun hn => hno fun e => hn (by injection e with e _; subst e; exact ⟨rfl, rfl, rfl, rfl, rfl, rfl, rfl⟩)
     · exact fun hn => hno fun e => hn (by
        injection e with e e2
        subst e
        have := congrArg List.length e2
        simp only [List.length_map] at this
        exact ⟨rfl, rfl, rfl, rfl, rfl, rfl, this⟩)
     · exact fun k hk hn => hno fun e => hn (by injection e with e _; subst e; rfl)
     · exact fun j h h' hbf => hno fun e => by
        injection e with _ e2
        have := (hbs j h h').1.2 (hmap j h h' e2)
        rw [hbf] at this
        cases this
     · intro h1 h2 h3 h4
       refine hb.2 ?_
       have hf : f = g := OpF.ext' h1 ⟨h3.1, h3.2.1, h3.2.2.1, h3.2.2.2.1, h3.2.2.2.2.1, h3.2.2.2.2.2.1⟩ (lists_ext.1 h2)
       have hl := h3.2.2.2.2.2.2
       have hm : Q.map Prod.fst = Q'.map Prod.fst := by
        refine List.ext_getElem (by simp [hl]) fun j hj hj' => ?_
        simp only [List.length_map] at hj hj'
        simpa using (hbs j hj hj').1.1 (h4 j hj)
       rw [hf, hm]

mutual
def OpC.cnt : OpC → Nat → Nat
 | .mk _ S, n => cntL S (n + 1)
def cntL : List OpC → Nat → Nat
 | [], n => n
 | x :: r, n => if n ≤ 3000 then cntL r (x.cnt n) else n
end
mutual
theorem OpC.cnt_le : ∀ (x : OpC) (n : Nat), n ≤ 3000 → x.cnt n ≤ 3001
 | .mk _ S, n, h => by rw [OpC.cnt]; exact cntL_le S (n + 1) (by omega)
theorem cntL_le : ∀ (S : List OpC) (n : Nat), n ≤ 3001 → cntL S n ≤ 3001
 | [], n, h => by rw [cntL]; exact h
 | x :: r, n, h => by
   rw [cntL]
   split
   · exact cntL_le r _ (OpC.cnt_le x n (by assumption))
   · exact h
end
theorem count_any {w0 : World} {lo : Option Nat} {x : OpC} {cs0 : List Value} (h : At w0 lo x cs0) : ∀ (w : World) (n : Nat), n ≤ 3000 → Below w0.heap.size w0 w →
 Calls Tryd.prog 22 #[.agg cs0.toArray, .int .i64 (n : Int)] w fun e w' => e = .returned (.int .i64 ((x.cnt n : Nat) : Int)) ∧ Below w.heap.size w w' := by
 induction h with
 | mk f d a k0 k1 k2 k3 k4 i s Q ok hd ha hk0 hk1 hk2 hk3 hk4 hi hs hQ ih =>
   intro w n hn hb0
   obtain ⟨cs, hcs⟩ : ∃ cs : Array Value, cs = (f.row d a k0 k1 k2 k3 k4 i s).toArray := ⟨_, rfl⟩
   rw [← hcs]
   obtain ⟨w1, hw1⟩ := xa w cs 29
   have hz1 : w1.heap.size = w.heap.size + 1 := by rw [← hw1]; simp
   have HB1 := Hi (zV hw1)
   have HN1 := Hi (zW hw1)
   have HC : Hid (cs[18]? = some (.slice s.A s.n s.c)) := by unfold Hid; rw [hcs]; rfl
   have HR : Hid (Reads w w0.heap.size 19 s.A s.n (Q.flatMap Prod.snd)) := hs.reads.below hb0
   have HQL : Hid (∀ q ∈ Q, q.2.length = 19) := fun q hq => (hQ q hq).len
   have HSL : Hid (Q.length = s.n) := hs.len
   have HIH : Hid (∀ q ∈ Q, ∀ (W : World) (m : Nat), m ≤ 3000 → Below w0.heap.size w0 W → Calls Tryd.prog 22 #[.agg q.2.toArray, .int .i64 (m : Int)] W fun e w' => e = .returned (.int .i64 ((q.1.cnt m : Nat) : Int)) ∧ Below W.heap.size W w') := ih
   have HB0 := Hi hb0
   have hlen : s.n ≤ 140737488355328 := by have := hs.reach; unfold reachBytes at this; omega
   obtain ⟨S, hS⟩ : ∃ S, S = Q.map Prod.fst := ⟨_, rfl⟩
   have HSQ := Hi hS
   rw [← hS]
   rw [OpC.cnt]
   clear hcs ih hs hd ha hk0 hk1 hk2 hk3 hk4 hi hQ ok hb0 hS
   obtain ⟨⟨A, N, c⟩, hsl⟩ : ∃ s' : Sl, s' = s := ⟨_, rfl⟩
   rw [← hsl] at HC HR HSL hlen
   dsimp only at HC HR HSL hlen
   clear hsl
   go_enter Tryd.func22, Tryd.ntmps22
   go_wp2
   go_loopw [1, 5] (fun vn vi wr => ∃ (k m : Nat), k ≤ N ∧ m ≤ 3001 ∧ vn = .int .i64 (m : Int) ∧ vi = .int .i64 (k : Int) ∧ Hid (cntL S (n + 1) = cntL (S.drop k) m) ∧ Hid (Below w1.heap.size w1 wr)) (fun _ vi _ => N - (intOf vi).toNat)
   case atStart => exact ⟨0, n + 1, by omega, by omega, by go_num, rfl, rfl, Below.refl _ _⟩
   case round =>
    obtain ⟨k, m, hk, hm, rfl, rfl, HK, HW⟩ := hrel
    have hblk := HN1.out.below HW.out HN1.out.lt
    have HBK := Hi hblk
    have c18 : wr.cell? ⟨w.heap.size, 18, none⟩ = some (.slice A N c) := (hblk.cell 18).trans HC.out
    clear hblk
    by_cases hkn : k < N
    · have hkQ : k < Q.length := by rw [HSL.out]; exact hkn
      have hbw : Below w.heap.size w wr := HB1.out.trans (HW.out.mono HB1.out.size)
      obtain ⟨ad, hA, hrow⟩ := subs_cells (HR.out.below (hbw.mono HB0.out.size)) HQL.out hkQ HSL.out
      subst hA
      have hdrop : S.drop k = (Q[k]).1 :: S.drop (k + 1) := by
       rw [HSQ.out, List.drop_eq_getElem_cons (by simpa using hkQ)]
       simp
      have hih := fun W m h1 h2 => HIH.out (Q[k]) (List.getElem_mem _) W m h1 h2
      have hl19 := HQL.out (Q[k]) (List.getElem_mem _)
      obtain ⟨⟨x, xc⟩, hx⟩ : ∃ x, x = Q[k] := ⟨_, rfl⟩
      rw [← hx] at hrow hdrop hih hl19
      dsimp only at hrow hdrop hih hl19
      have HROW := Hi hrow
      have HDR := Hi hdrop
      have HBW := Hi hbw
      have HIK := Hi hih
      have ZX : Hid ((Tryd.prog.info? 29).map (·.size) = some xc.length) := by unfold Hid; rw [hl19]; exact isz_29
      clear hx hrow hdrop hbw hkQ hih hl19
      by_cases hm0 : m ≤ 3000
      · have hcnt := OpC.cnt_le x m hm0
        have HK2 : Hid (cntL S (n + 1) = cntL (S.drop (k + 1)) (x.cnt m)) := by unfold Hid; rw [HK.out, HDR.out, cntL, if_pos hm0]
        have HCA := Hi (HIK.out wr m hm0 (HB0.out.trans (HBW.out.mono HB0.out.size)))
        clear HK HDR
        go_wp2_with (first
         | (refine wpList_load_at (by rfl) 29 (.tmp 22) rfl (ad.add (k * 19)) rfl xc _ HROW.out zU29 rfl ZX.out ?_)
         | (go_at_call 22
            refine HCA.out.mono ?_
            rintro e w3 ⟨rfl, hb⟩
            have HW3 : Hid (Below w1.heap.size w1 w3) := HW.out.trans (hb.mono HW.out.size)
            clear hb))
        go_roundw
        case rel => exact ⟨k + 1, x.cnt m, by omega, hcnt, by go_num, by go_num, HK2, HW3⟩
        case measure => simp [intOf]; omega
      · have HK2 : Hid (cntL S (n + 1) = m) := by unfold Hid; rw [HK.out, HDR.out, cntL, if_neg hm0]
        clear HK HDR
        go_wp2
        go_ret
        rw [HK2.out]
        exact ⟨rfl, HBW.out⟩
    · have hkk : k = N := by omega
      subst hkk
      have HK2 : Hid (cntL S (n + 1) = m) := by
       unfold Hid
       rw [HK.out, List.drop_eq_nil_of_le (by rw [HSQ.out, List.length_map, HSL.out]; exact Nat.le_refl _), cntL]
      have HBW : Hid (Below w.heap.size w wr) := HB1.out.trans (HW.out.mono HB1.out.size)
      clear HK
      go_wp2
      go_ret
      rw [HK2.out]
      exact ⟨rfl, HBW.out⟩
theorem great_any {w0 : World} {lo : Option Nat} {x : OpC} {xs : List Value} (h : At w0 lo x xs) (w : World) (hw : Below w0.heap.size w0 w) :
 Calls Tryd.prog 9 #[.agg xs.toArray] w fun e w' => e = .returned (.bool (decide (3000 < x.cnt 0))) ∧ Below w.heap.size w w' := by
 have HC : Hid (∀ W, Below w.heap.size w W → Calls Tryd.prog 22 #[.agg xs.toArray, .int .i64 0] W fun e w' => e = .returned (.int .i64 ((x.cnt 0 : Nat) : Int)) ∧ Below W.heap.size W w') := fun W hb => count_any h W 0 (by omega) (hw.trans (hb.mono hw.size))
 have hsz : xs.toArray.size = 19 := by rw [zO, h.len]
 obtain ⟨cs, hcs⟩ : ∃ cs : Array Value, cs = xs.toArray := ⟨_, rfl⟩
 rw [← hcs] at HC hsz ⊢
 obtain ⟨w1, hw1⟩ := xa w cs 29
 have HB1 := Hi (zV hw1)
 have HN1 := Hi (zW hw1)
 have HSZ := Hi hsz
 generalize x.cnt 0 = q at HC ⊢
 clear hcs hsz h hw
 go_enter Tryd.func9, Tryd.ntmps9
 go_wp2_with (first
  | (refine wpList_load_row rfl 29 (.tmp 1) rfl w.heap.size rfl 29 _ _ _ HN1.out zU29 rfl (by rw [isz_29, HSZ.out]) ?_)
  | (go_at_call 22
     refine (HC.out _ HB1.out).mono ?_
     rintro e w2 ⟨rfl, hb⟩
     have HB2 := Hi (HB1.out.trans (hb.mono HB1.out.size))
     clear hb))
 go_ret
 exact ⟨by simp; omega, HB2.out⟩

def kindL : List (Int × Int) := [(1, 3), (15, 3), (19, 3), (21, 3), (2, 3), (13, 3), (5, 3), (7, 3), (120, 3), (121, 3), (14, 2), (-10, 4), (-11, 4), (20, 5), (3, 1), (4, 1), (8, 1), (12, 1), (6, 1), (9, 1), (103, 1), (104, 1), (106, 1), (11, 1), (18, 1), (101, 1), (22, 1), (107, 1)]
def kindN (t : Int) : Int := ((kindL.find? fun x => x.1 == t).map (·.2)).getD 0
theorem kind_in : ∀ x ∈ kindL, ∀ w, Calls Tryd.prog 12 #[.int .i32 x.1] w fun e w' => e = .returned (.int .i64 x.2) ∧ w' = w := by
 intro x hx w
 simp only [kindL, zH, zI, or_false] at hx
 rcases hx with rfl | rfl | rfl | rfl | rfl | rfl | rfl | rfl | rfl | rfl | rfl | rfl | rfl | rfl | rfl | rfl | rfl | rfl | rfl | rfl | rfl | rfl | rfl | rfl | rfl | rfl | rfl | rfl
 all_goals
  go_enter Tryd.func12, Tryd.ntmps12
  go_wp2
  go_ret
  exact ⟨rfl, rfl⟩
theorem kind_out (t : Int) (h : ∀ x ∈ kindL, ¬ t = x.1) (w : World) : Calls Tryd.prog 12 #[.int .i32 t] w fun e w' => e = .returned (.int .i64 0) ∧ w' = w := by
 simp only [kindL, List.forall_mem_cons, zI, false_implies, implies_true, and_true] at h
 obtain ⟨h0, h1, h2, h3, h4, h5, h6, h7, h8, h9, h10, h11, h12, h13, h14, h15, h16, h17, h18, h19, h20, h21, h22, h23, h24, h25, h26, h27⟩ := h
 go_enter Tryd.func12, Tryd.ntmps12
 go_wp2
 go_ret
 exact ⟨rfl, rfl⟩
theorem kind_any (t : Int) (w : World) : Calls Tryd.prog 12 #[.int .i32 t] w fun e w' => e = .returned (.int .i64 (kindN t)) ∧ w' = w := by
 obtain ⟨k, hk⟩ : ∃ k, k = kindN t := ⟨_, rfl⟩
 rw [← hk]
 unfold kindN at hk
 rcases hf : kindL.find? (fun x => x.1 == t) with _ | x
 · rw [hf] at hk
   simp only [Option.map_none, Option.getD_none] at hk
   subst hk
   rw [List.find?_eq_none] at hf
   exact kind_out t (fun x hx e => hf x hx (by simp [e])) w
 · rw [hf] at hk
   simp only [Option.map_some, Option.getD_some] at hk
   subst hk
   have h1 := List.mem_of_find?_eq_some hf
   have h2 := List.find?_some hf
   have h3 : x.1 = t := by simpa using h2
   rw [← h3]
   exact kind_in x h1 w

def mayN (t i : Int) : Bool := if i = 22 then t == 3 || t == 4 || t == 6 || t == 8 || t == 12 else kindN t == 3 || kindN t == 2
theorem may_any (t i : Int) (w : World) : Calls Tryd.prog 53 #[.int .i32 t, .int .i32 i] w fun e w' => e = .returned (.bool (mayN t i)) ∧ w' = w := by
 by_cases hi : i = 22
 · subst hi
   have hm : mayN t 22 = (t == 3 || t == 4 || t == 6 || t == 8 || t == 12) := rfl
   rw [hm]
   by_cases h : t = 3 ∨ t = 4 ∨ t = 6 ∨ t = 8 ∨ t = 12
   · rcases h with rfl | rfl | rfl | rfl | rfl
     all_goals
      go_enter Tryd.func53, Tryd.ntmps53
      go_wp2
      go_ret
      exact ⟨rfl, rfl⟩
   · have h3 : ¬ t = 3 := fun e => h (.inl e)
     have h4 : ¬ t = 4 := fun e => h (.inr (.inl e))
     have h6 : ¬ t = 6 := fun e => h (.inr (.inr (.inl e)))
     have h8 : ¬ t = 8 := fun e => h (.inr (.inr (.inr (.inl e))))
     have h12 : ¬ t = 12 := fun e => h (.inr (.inr (.inr (.inr e))))
     have hf : (t == 3 || t == 4 || t == 6 || t == 8 || t == 12) = false := by simp [h3, h4, h6, h8, h12]
     rw [hf]
     clear h hm hf
     go_enter Tryd.func53, Tryd.ntmps53
     go_wp2
     go_ret
     exact ⟨by simp [h3, h4, h6, h8, h12], rfl⟩
 · have hm : mayN t i = (kindN t == 3 || kindN t == 2) := by unfold mayN; rw [if_neg hi]
   rw [hm]
   have HK := Hi (fun W => kind_any t W)
   generalize kindN t = k at HK ⊢
   clear hm
   by_cases h3 : k = 3
   · subst h3
     go_enter Tryd.func53, Tryd.ntmps53
     go_wp2_with (go_at_call 12; refine (HK.out _).mono ?_; rintro e w2 ⟨rfl, rfl⟩)
     go_ret
     exact ⟨rfl, rfl⟩
   · go_enter Tryd.func53, Tryd.ntmps53
     go_wp2_with (go_at_call 12; refine (HK.out _).mono ?_; rintro e w2 ⟨rfl, rfl⟩)
     go_ret
     exact ⟨by simp [h3], rfl⟩

theorem At.one {w : World} {lo : Option Nat} {x : OpC} {cs : List Value} (h : At w lo x cs) : cs.toArray.all (·.oneCell') = true := by
 cases h
 simp [OpF.row, Sl.v, Value.oneCell']
theorem zer_op : ((Tryd.prog.info? 29).bind (·.zero)).map (·.cells.size) = some 19 := by kernel_rfl
structure RowAt (wr : World) (ad : Addr) (k : Nat) (xc : List Value) : Prop where
 cells : ∀ j v, xc[j]? = some v → wr.cell? ((ad.add (k * 19)).add j) = some v
 info : (Tryd.prog.info? 29).map (·.size) = some xc.length
 infoA : (Tryd.prog.info? 29).map (·.size) = some xc.toArray.size
 zero : ((Tryd.prog.info? 29).bind (·.zero)).map (·.cells.size) = some xc.toArray.size
 one : xc.toArray.all (·.oneCell') = true
theorem rowAt {w0 w : World} {lo : Option Nat} {B n : Nat} {A : Option Addr} {Q : List (OpC × List Value)} (h : Reads w B 19 A n (Q.flatMap Prod.snd)) (hQ : ∀ q ∈ Q, At w0 lo q.1 q.2) {j : Nat} (hj : j < Q.length) (hn : Q.length = n) :
 ∃ ad, A = some ad ∧ RowAt w ad j (Q[j]).2 := by
 obtain ⟨ad, hA, hc⟩ := subs_cells h (fun q hq => (hQ q hq).len) hj hn
 have h19 := (hQ _ (List.getElem_mem hj)).len
 exact ⟨ad, hA, hc, by rw [h19]; exact isz_29, by rw [zO, h19]; exact isz_29, by rw [zO, h19]; exact zer_op, (hQ _ (List.getElem_mem hj)).one⟩
mutual
def OpC.nodes : OpC → Nat
 | .mk _ S => nodesL S + 1
def nodesL : List OpC → Nat
 | [] => 0
 | x :: r => x.nodes + nodesL r
end
mutual
def OpC.parts : OpC → Nat
 | .mk f S => if f.t = 14 then partsL S else 1
def partsL : List OpC → Nat
 | [] => 0
 | x :: r => x.parts + partsL r
end
mutual
def OpC.multis : OpC → Nat
 | .mk f S => if f.t = 14 then 1 + multisL S else 0
def multisL : List OpC → Nat
 | [] => 0
 | x :: r => x.multis + multisL r
end
mutual
def OpC.depth : OpC → Nat
 | .mk f S => if f.t = 14 then depthL S + 1 else 0
def depthL : List OpC → Nat
 | [] => 0
 | x :: r => max x.depth (depthL r)
end
mutual
theorem OpC.nodes_cnt : ∀ (x : OpC) (n : Nat), x.cnt n ≤ 3000 → x.cnt n = n + x.nodes
 | .mk f S, n, h => by
   rw [OpC.cnt] at h ⊢
   rw [nodes_cntL S (n + 1) h, OpC.nodes]
   omega
theorem nodes_cntL : ∀ (S : List OpC) (n : Nat), cntL S n ≤ 3000 → cntL S n = n + nodesL S
 | [], n, h => by rw [cntL, nodesL]; rfl
 | x :: r, n, h => by
   have hge : ∀ (S : List OpC) (m : Nat), m ≤ cntL S m := fun S m => cntL_ge S m
   rw [cntL] at h ⊢
   split at h
   · rename_i hn
     rw [if_pos hn]
     have h1 := hge r (x.cnt n)
     have h2 := OpC.nodes_cnt x n (by omega)
     rw [nodes_cntL r _ h, h2, nodesL]
     omega
   · omega
theorem OpC.cnt_ge : ∀ (x : OpC) (n : Nat), n + 1 ≤ x.cnt n
 | .mk f S, n => by rw [OpC.cnt]; exact cntL_ge S (n + 1)
theorem cntL_ge : ∀ (S : List OpC) (m : Nat), m ≤ cntL S m
 | [], m => by rw [cntL]; exact Nat.le_refl _
 | x :: r, m => by
   rw [cntL]
   split
   · have h1 := OpC.cnt_ge x m
     have h2 := cntL_ge r (x.cnt m)
     omega
   · exact Nat.le_refl _
end
mutual
theorem OpC.counts_le : ∀ (x : OpC), x.parts ≤ x.nodes ∧ x.multis ≤ x.nodes ∧ x.depth ≤ x.nodes
 | .mk f S => by
   have h := counts_leL S
   rw [OpC.parts, OpC.multis, OpC.depth, OpC.nodes]
   split <;> omega
theorem counts_leL : ∀ (S : List OpC), partsL S ≤ nodesL S ∧ multisL S ≤ nodesL S ∧ depthL S ≤ nodesL S
 | [] => by rw [partsL, multisL, depthL, nodesL]; omega
 | x :: r => by
   have h := OpC.counts_le x
   have h' := counts_leL r
   rw [partsL, multisL, depthL, nodesL]
   omega
end
theorem nodesL_mem {S : List OpC} {x : OpC} (h : x ∈ S) : x.nodes ≤ nodesL S := by
 induction S with
 | nil => cases h
 | cons y r ih =>
   rw [nodesL]
   rcases zH.1 h with rfl | h
   · omega
   · have := ih h; omega
mutual
theorem OpC.nodes_bulk : ∀ (x : OpC), x.nodes ≤ x.bulk
 | .mk f S => by
   have := nodes_bulkL S
   rw [OpC.nodes, OpC.bulk]
   unfold OpF.bulk
   omega
theorem nodes_bulkL : ∀ (S : List OpC), nodesL S ≤ bulkL S
 | [] => by rw [nodesL, bulkL]; exact Nat.le_refl _
 | x :: r => by
   have h1 := OpC.nodes_bulk x
   have h2 := nodes_bulkL r
   rw [nodesL, bulkL]
   omega
end
def countV (x : OpC) : Value := .tuple #[.int .i64 (x.parts : Int), .int .i64 (x.multis : Int), .int .i64 (x.depth : Int)]
theorem counts_any {w0 : World} {lo : Option Nat} {x : OpC} {xs : List Value} (h : At w0 lo x xs) : ∀ (w : World), x.nodes ≤ 1000000000 → Below w0.heap.size w0 w →
 Calls Tryd.prog 16 #[.agg xs.toArray] w fun e w' => e = .returned (countV x) ∧ Below w.heap.size w w' := by
 induction h with
 | mk f d a k0 k1 k2 k3 k4 i s Q ok hd ha hk0 hk1 hk2 hk3 hk4 hi hs hQ ih =>
   intro w hn hb0
   obtain ⟨cs, hcs⟩ : ∃ cs : Array Value, cs = (f.row d a k0 k1 k2 k3 k4 i s).toArray := ⟨_, rfl⟩
   rw [← hcs]
   obtain ⟨w1, hw1⟩ := xa w cs 29
   have hz1 : w1.heap.size = w.heap.size + 1 := by rw [← hw1]; simp
   have HB1 := Hi (zV hw1)
   have HN1 := Hi (zW hw1)
   have HC0 : Hid (cs[0]? = some (.int .i32 f.t)) := by unfold Hid; rw [hcs]; rfl
   have HC18 : Hid (cs[18]? = some (.slice s.A s.n s.c)) := by unfold Hid; rw [hcs]; rfl
   have HR : Hid (Reads w w0.heap.size 19 s.A s.n (Q.flatMap Prod.snd)) := hs.reads.below hb0
   have HQA : Hid (∀ q ∈ Q, At w0 lo q.1 q.2) := hQ
   have HSL : Hid (Q.length = s.n) := hs.len
   have HIH : Hid (∀ q ∈ Q, ∀ (W : World), q.1.nodes ≤ 1000000000 → Below w0.heap.size w0 W → Calls Tryd.prog 16 #[.agg q.2.toArray] W fun e w' => e = .returned (countV q.1) ∧ Below W.heap.size W w') := ih
   have HB0 := Hi hb0
   have hlen : s.n ≤ 4611686018427387904 := hs.bd (by decide)
   obtain ⟨S, hS⟩ : ∃ S, S = Q.map Prod.fst := ⟨_, rfl⟩
   have HSQ := Hi hS
   rw [← hS] at hn ⊢
   have hnl : nodesL S + 1 ≤ 1000000000 := by rwa [OpC.nodes] at hn
   have HNL := Hi hnl
   have c0 := yC HN1.out 0 HC0.out
   have c18 := yC HN1.out 18 HC18.out
   unfold countV
   rw [OpC.parts, OpC.multis, OpC.depth]
   clear hcs ih hs hd ha hk0 hk1 hk2 hk3 hk4 hi hQ ok hb0 hS hn hnl
   obtain ⟨A, N, c⟩ := s
   dsimp only at HR HSL hlen HC18 c18
   by_cases ht : f.t = 14
   rotate_left
   · rw [if_neg ht, if_neg ht, if_neg ht]
     go_enter Tryd.func16, Tryd.ntmps16
     go_wp2
     go_ret3
     exact ⟨rfl, HB1.out⟩
   rw [if_pos ht, if_pos ht, if_pos ht]
   go_enter Tryd.func16, Tryd.ntmps16
   go_wp2
   go_loopw [5, 6, 7, 19] (fun vp vm vd vi wr => ∃ (k p m dd : Nat), k ≤ N ∧ p + m + dd ≤ 3000000001 ∧ vp = .int .i64 (p : Int) ∧ vm = .int .i64 (m : Int) ∧ vd = .int .i64 (dd : Int) ∧ vi = .int .i64 (k : Int) ∧ Hid (partsL S = p + partsL (S.drop k) ∧ 1 + multisL S = m + multisL (S.drop k) ∧ depthL S = max dd (depthL (S.drop k))) ∧ Hid (Below w1.heap.size w1 wr)) (fun _ _ _ vi _ => N - (intOf vi).toNat)
   case atStart => exact ⟨0, 0, 1, 0, by omega, by omega, by go_num, by go_num, by go_num, by go_num, (by unfold Hid; simp), Below.refl _ _⟩
   case round =>
    obtain ⟨k, p, m, dd, hk, hpm, rfl, rfl, rfl, rfl, HK, HW⟩ := hrel
    by_cases hkn : k < N
    · have hkQ : k < Q.length := by rw [HSL.out]; exact hkn
      have hbw : Below w.heap.size w wr := HB1.out.trans (HW.out.mono HB1.out.size)
      obtain ⟨ad, hA, hrow⟩ := rowAt (HR.out.below (hbw.mono HB0.out.size)) HQA.out hkQ HSL.out
      subst hA
      have hdrop : S.drop k = (Q[k]).1 :: S.drop (k + 1) := by
       rw [HSQ.out, List.drop_eq_getElem_cons (by simpa using hkQ)]
       simp
      have hmem : (Q[k]).1 ∈ S := by rw [HSQ.out]; exact List.mem_map.2 ⟨_, List.getElem_mem _, rfl⟩
      have hih := HIH.out (Q[k]) (List.getElem_mem _)
      obtain ⟨⟨x, xc⟩, hx⟩ : ∃ x, x = Q[k] := ⟨_, rfl⟩
      rw [← hx] at hrow hdrop hih hmem
      dsimp only at hrow hdrop hih hmem
      have hxn := nodesL_mem hmem
      have hxc := OpC.counts_le x
      have hsl := counts_leL S
      have hnl := HNL.out
      have hk' := HK.out
      rw [hdrop, partsL, multisL, depthL] at hk'
      obtain ⟨xp, hxp⟩ : ∃ z, z = x.parts := ⟨_, rfl⟩
      obtain ⟨xm, hxm⟩ : ∃ z, z = x.multis := ⟨_, rfl⟩
      obtain ⟨xd, hxd⟩ : ∃ z, z = x.depth := ⟨_, rfl⟩
      have hih2 : ∀ W, Below wr.heap.size wr W → Calls Tryd.prog 16 #[.agg xc.toArray] W fun e w' => e = .returned (.tuple #[.int .i64 (xp : Int), .int .i64 (xm : Int), .int .i64 (xd : Int)]) ∧ Below W.heap.size W w' := fun W hW => by
       have h := hih W (by omega) ((HB0.out.trans (hbw.mono HB0.out.size)).trans (hW.mono (Nat.le_trans HB0.out.size hbw.size)))
       unfold countV at h
       rw [← hxp, ← hxm, ← hxd] at h
       exact h
      rw [← hxp, ← hxm, ← hxd] at hk'
      rw [← hxp, ← hxm, ← hxd] at hxc
      have hb1 : xp ≤ 1000000000 := by omega
      have hb2 : xm ≤ 1000000000 := by omega
      have hb3 : xd ≤ 1000000000 := by omega
      have hb4 : p + xp ≤ 1000000000 := by omega
      have hb5 : m + xm ≤ 1000000001 := by omega
      have hb6 : dd ≤ 1000000000 := by omega
      have HK' : Hid (partsL S = (p + xp) + partsL (S.drop (k + 1)) ∧ 1 + multisL S = (m + xm) + multisL (S.drop (k + 1)) ∧ depthL S = max (max dd xd) (depthL (S.drop (k + 1)))) := ⟨by omega, by omega, by omega⟩
      have HROW := Hi hrow
      have HBW := Hi hbw
      have HIK := Hi hih2
      clear hx hrow hdrop hbw hkQ hih hih2 hmem hxp hxm hxd hk' hsl hnl hxn hxc HK
      obtain ⟨w2, hw2⟩ := xa wr (xc.toArray) 29
      have HN2 := Hi (zW hw2)
      have HB2 := Hi (zV hw2)
      rcases Nat.lt_or_ge dd xd with hdx | hdx
      all_goals
       go_wp2_with (first
        | (refine wpList_load_at (by rfl) 29 (.tmp 21) rfl (ad.add (k * 19)) rfl xc _ HROW.out.cells zU29 rfl HROW.out.info ?_)
        | (refine wpList_newrow rfl rfl 29 rfl 9 rfl (.tmp 22) rfl rfl xc.toArray (fun _ => rfl) (show 9 < 43 by decide) HROW.out.zero HROW.out.infoA HROW.out.one ?_
           rw [hw2])
        | (refine wpList_load_row rfl 29 (.tmp 9) rfl wr.heap.size rfl 29 _ _ _ HN2.out zU29 rfl HROW.out.infoA ?_)
        | (go_at_call 16
           refine (HIK.out _ HB2.out).mono ?_
           rintro e w3 ⟨rfl, hb⟩
           have HW3 : Hid (Below w1.heap.size w1 w3) := (HW.out.trans (HB2.out.mono HW.out.size)).trans (hb.mono (Nat.le_trans HW.out.size HB2.out.size))
           clear hb))
      · go_roundw
        case rel => exact ⟨k + 1, p + xp, m + xm, xd, by omega, by omega, by go_num, by go_num, by go_num, by go_num, (by have h := HK'.out; rwa [Nat.max_eq_right (by omega : dd ≤ xd)] at h), HW3⟩
        case measure => simp [intOf]; omega
      · go_roundw
        case rel => exact ⟨k + 1, p + xp, m + xm, dd, by omega, by omega, by go_num, by go_num, by go_num, by go_num, (by have h := HK'.out; rwa [Nat.max_eq_left (by omega : xd ≤ dd)] at h), HW3⟩
        case measure => simp [intOf]; omega
    · have hkk : k = N := by omega
      subst hkk
      have HK2 : Hid (partsL S = p ∧ 1 + multisL S = m ∧ depthL S = dd) := by
       have h := HK.out
       rw [List.drop_eq_nil_of_le (by rw [HSQ.out, List.length_map, HSL.out]; exact Nat.le_refl _), partsL, multisL, depthL] at h
       exact ⟨by omega, by omega, by omega⟩
      have HBW : Hid (Below w.heap.size w wr) := HB1.out.trans (HW.out.mono HB1.out.size)
      have hdd : dd ≤ 3000000001 := by omega
      clear HK
      go_wp2
      go_ret3
      rw [HK2.out.1, HK2.out.2.1, HK2.out.2.2]
      exact ⟨rfl, HBW.out⟩
end Go.Proofs.YtpjjnmdfgcfnmaaDoor
