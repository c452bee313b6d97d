/- The document's ops.Get: the state of a reading. (printed by gen_h1.py) -/
import Derived.Test.YtpjjnmdfgcfnmaaGreatDoorOqj
import Derived.Test.YtpjjnmdfgcfnmaaGreatDoorJtb
set_option linter.unusedVariables false
set_option linter.unusedSimpArgs false
namespace Go.Proofs.YtpjjnmdfgcfnmaaGreatDoor
open Go.RowKit

theorem RR.set {w : World} {base R c p g : Nat} {A : Option Addr} {l : List UInt8} {e : Int} (h : RR w base R A c l p e) (hg : R ≠ g) (hb : base ≤ g) (i : Nat) (v : Value) : RR (w.setCell ⟨g, i, none⟩ v) base R A c l p e :=
  h.kp (Kp.setCell ⟨g, i, none⟩ v) (by simpa using hg) (by simpa using hb)
theorem RR.low {w : World} {base R c p : Nat} {A : Option Addr} {l : List UInt8} {e : Int} (h : RR w base R A c l p e) : base ≤ w.heap.size := Nat.le_of_lt (Nat.lt_of_le_of_lt h.old h.lt)
/-- what is read so far lies in the block behind the result's -/
structure HSt (w0 : World) (base : Nat) (R C c : Nat) (A : Option Addr) (l : List UInt8) (q : Nat) (f : OpF) (d a k0 k1 k2 k3 k4 i s : Sl) (w : World) : Prop where
  rdr : RR w base R A c l q 0
  blk : Blk w (w0.heap.size + 1) 29 (f.row d a k0 k1 k2 k3 k4 i s).toArray
  res : Blk w w0.heap.size 29 #[.int .i32 0, .string ⟨#[]⟩, .slice none 0 0, .slice none 0 0, .int .i32 0, .int .i32 0, .bool false, .int .i64 0, .int .i64 0, .int .i64 0, .int .i64 0, .slice none 0 0, .slice none 0 0, .slice none 0 0, .slice none 0 0, .slice none 0 0, .int .i32 0, .slice none 0 0, .slice none 0 0]
  kp : Kp [R, C] w0 w
  old : R < w0.heap.size
  oldC : C < w0.heap.size
  fat : FAt w (some (w0.heap.size + 2)) f d a k0 k1 k2 k3 k4 i
  ok : f.Ok
theorem HSt.start {w wa w1 : World} {base : Nat} {R C c p : Nat} {A : Option Addr} {l : List UInt8} {t : Int} (h : RR w base R A c l p 0) (hC : C < w.heap.size) (ht : (Lit.int .i32 t).wf = true) (hwa : w.alloc (.cells #[.int .i32 0, .string ⟨#[]⟩, .slice none 0 0, .slice none 0 0, .int .i32 0, .int .i32 0, .bool false, .int .i64 0, .int .i64 0, .int .i64 0, .int .i64 0, .slice none 0 0, .slice none 0 0, .slice none 0 0, .slice none 0 0, .slice none 0 0, .int .i32 0, .slice none 0 0, .slice none 0 0] 29) = wa) (hw1 : wa.alloc (.cells ((zF t).row nilS nilS nilS nilS nilS nilS nilS nilS nilS).toArray 29) = w1) : HSt w base R C c A l p (zF t) nilS nilS nilS nilS nilS nilS nilS nilS nilS w1 := by
  have hza : wa.heap.size = w.heap.size + 1 := by rw [← hwa]; simp
  have hba : Below w.heap.size w wa := by rw [← hwa]; exact (Below.refl _ _).alloc (Nat.le_refl _) _
  have hb1 : Below wa.heap.size wa w1 := by rw [← hw1]; exact (Below.refl _ _).alloc (Nat.le_refl _) _
  have hb : Below w.heap.size w w1 := hba.trans (hb1.mono hba.size)
  have hna : Blk wa w.heap.size 29 #[.int .i32 0, .string ⟨#[]⟩, .slice none 0 0, .slice none 0 0, .int .i32 0, .int .i32 0, .bool false, .int .i64 0, .int .i64 0, .int .i64 0, .int .i64 0, .slice none 0 0, .slice none 0 0, .slice none 0 0, .slice none 0 0, .slice none 0 0, .int .i32 0, .slice none 0 0, .slice none 0 0] := by rw [← hwa]; exact Blk.new _ _ _
  have hn1 : Blk w1 wa.heap.size 29 ((zF t).row nilS nilS nilS nilS nilS nilS nilS nilS nilS).toArray := by rw [← hw1]; exact Blk.new _ _ _
  rw [hza] at hn1
  exact ⟨h.later hb, hn1, hna.below hb1 hna.lt, Kp.of_below hb, h.lt, hC, ⟨SlAt.zero _ _ _ _ _, SlAt.zero _ _ _ _ _, SlAt.zero _ _ _ _ _, SlAt.zero _ _ _ _ _, SlAt.zero _ _ _ _ _, SlAt.zero _ _ _ _ _, SlAt.zero _ _ _ _ _, SlAt.zero _ _ _ _ _⟩, zF_ok ht⟩
section
variable {w0 w w' : World} {base : Nat} {R C c q q' : Nat} {A : Option Addr} {l : List UInt8} {f : OpF} {d a k0 k1 k2 k3 k4 i s : Sl}
theorem HSt.read (h : HSt w0 base R C c A l q f d a k0 k1 k2 k3 k4 i s w) (hk : Kp [R, C] w w') (hR : RR w' base R A c l q' 0) : HSt w0 base R C c A l q' f d a k0 k1 k2 k3 k4 i s w' :=
  ⟨hR, h.blk.kp hk (by have := h.old; have := h.oldC; simp; omega), h.res.kp hk (by have := h.old; have := h.oldC; simp; omega), h.kp.trans hk, h.old, h.oldC, h.fat.kp hk (by have := h.old; have := h.oldC; simp; omega), h.ok⟩
theorem HSt.size (h : HSt w0 base R C c A l q f d a k0 k1 k2 k3 k4 i s w) : w0.heap.size + 2 ≤ w.heap.size := h.blk.lt
theorem HSt.set_ (h : HSt w0 base R C c A l q f d a k0 k1 k2 k3 k4 i s w) (j : Nat) (u : Value) : RR (w.setCell ⟨w0.heap.size + 1, j, none⟩ u) base R A c l q 0 ∧ Blk (w.setCell ⟨w0.heap.size + 1, j, none⟩ u) (w0.heap.size + 1) 29 ((f.row d a k0 k1 k2 k3 k4 i s).toArray.setIfInBounds j u) ∧ Blk (w.setCell ⟨w0.heap.size + 1, j, none⟩ u) w0.heap.size 29 #[.int .i32 0, .string ⟨#[]⟩, .slice none 0 0, .slice none 0 0, .int .i32 0, .int .i32 0, .bool false, .int .i64 0, .int .i64 0, .int .i64 0, .int .i64 0, .slice none 0 0, .slice none 0 0, .slice none 0 0, .slice none 0 0, .slice none 0 0, .int .i32 0, .slice none 0 0, .slice none 0 0] ∧ Kp [R, C] w0 (w.setCell ⟨w0.heap.size + 1, j, none⟩ u) ∧ Kp [w0.heap.size + 1] w (w.setCell ⟨w0.heap.size + 1, j, none⟩ u) := by
  have ho := h.old
  have hoC := h.oldC
  have hlw := h.rdr.old
  exact ⟨h.rdr.set (by omega) (by omega) j u, h.blk.set_ j u, h.res.far (p := ⟨w0.heap.size + 1, j, none⟩) (by simp) u, h.kp.set_ (by omega) j u, Kp.setCell ⟨w0.heap.size + 1, j, none⟩ u⟩
theorem HSt.set_p (h : HSt w0 base R C c A l q f d a k0 k1 k2 k3 k4 i s w) {x : ByteArray} (hx : x.size ≤ reachBytes) : HSt w0 base R C c A l q { f with p := x } d a k0 k1 k2 k3 k4 i s (w.setCell ⟨w0.heap.size + 1, 1, none⟩ (.string x)) := by
  obtain ⟨h1, h2, h3, h4, h5⟩ := h.set_ 1 (.string x)
  have h6 := h.fat.kp h5 (by simp)
  exact ⟨h1, h2, h3, h4, h.old, h.oldC, ⟨h6.d, h6.a, h6.k0, h6.k1, h6.k2, h6.k3, h6.k4, h6.i⟩, ⟨h.ok.t, h.ok.fl, h.ok.ve, h.ok.ct, h.ok.by_, h.ok.tl, h.ok.zx, h.ok.to, hx, h.ok.acl, h.ok.ids, h.ok.k0, h.ok.k1, h.ok.k2, h.ok.k3, h.ok.k4⟩⟩
theorem HSt.set_d (h : HSt w0 base R C c A l q f d a k0 k1 k2 k3 k4 i s w) {x : List UInt8} {A' : Option Addr} {c' : Nat} (ho : w.ownsRow (w0.heap.size + 2) 5 1 (.slice A' x.length c') x.length (bcells x)) (hr : x.length * 1 ≤ reachBytes) : HSt w0 base R C c A l q { f with l := x } ⟨A', x.length, c'⟩ a k0 k1 k2 k3 k4 i s (w.setCell ⟨w0.heap.size + 1, 2, none⟩ (.slice A' x.length c')) := by
  obtain ⟨h1, h2, h3, h4, h5⟩ := h.set_ 2 (.slice A' x.length c')
  have h6 := h.fat.kp h5 (by simp)
  exact ⟨h1, h2, h3, h4, h.old, h.oldC, ⟨(SlAt.of_own ho hr).kp h5 (by simp), h6.a, h6.k0, h6.k1, h6.k2, h6.k3, h6.k4, h6.i⟩, ⟨h.ok.t, h.ok.fl, h.ok.ve, h.ok.ct, h.ok.by_, h.ok.tl, h.ok.zx, h.ok.to, h.ok.p, h.ok.acl, h.ok.ids, h.ok.k0, h.ok.k1, h.ok.k2, h.ok.k3, h.ok.k4⟩⟩
theorem HSt.set_a (h : HSt w0 base R C c A l q f d a k0 k1 k2 k3 k4 i s w) {x : List AclT} {A' : Option Addr} {c' : Nat} (ho : w.ownsRow (w0.heap.size + 2) 104 3 (.slice A' x.length c') x.length (aclCells x)) (hr : x.length * 40 ≤ reachBytes) (hx : ∀ y ∈ x, (Lit.int .i32 y.1).wf = true ∧ y.2.1.size ≤ reachBytes ∧ y.2.2.size ≤ reachBytes) : HSt w0 base R C c A l q { f with L := x } d ⟨A', x.length, c'⟩ k0 k1 k2 k3 k4 i s (w.setCell ⟨w0.heap.size + 1, 3, none⟩ (.slice A' x.length c')) := by
  obtain ⟨h1, h2, h3, h4, h5⟩ := h.set_ 3 (.slice A' x.length c')
  have h6 := h.fat.kp h5 (by simp)
  exact ⟨h1, h2, h3, h4, h.old, h.oldC, ⟨h6.d, (SlAt.of_own ho hr).kp h5 (by simp), h6.k0, h6.k1, h6.k2, h6.k3, h6.k4, h6.i⟩, ⟨h.ok.t, h.ok.fl, h.ok.ve, h.ok.ct, h.ok.by_, h.ok.tl, h.ok.zx, h.ok.to, h.ok.p, hx, h.ok.ids, h.ok.k0, h.ok.k1, h.ok.k2, h.ok.k3, h.ok.k4⟩⟩
theorem HSt.set_fl (h : HSt w0 base R C c A l q f d a k0 k1 k2 k3 k4 i s w) {z : Int} (hz : (Lit.int .i32 z).wf = true) : HSt w0 base R C c A l q { f with fl := z } d a k0 k1 k2 k3 k4 i s (w.setCell ⟨w0.heap.size + 1, 4, none⟩ (.int .i32 z)) := by
  obtain ⟨h1, h2, h3, h4, h5⟩ := h.set_ 4 (.int .i32 z)
  have h6 := h.fat.kp h5 (by simp)
  exact ⟨h1, h2, h3, h4, h.old, h.oldC, ⟨h6.d, h6.a, h6.k0, h6.k1, h6.k2, h6.k3, h6.k4, h6.i⟩, ⟨h.ok.t, hz, h.ok.ve, h.ok.ct, h.ok.by_, h.ok.tl, h.ok.zx, h.ok.to, h.ok.p, h.ok.acl, h.ok.ids, h.ok.k0, h.ok.k1, h.ok.k2, h.ok.k3, h.ok.k4⟩⟩
theorem HSt.set_ve (h : HSt w0 base R C c A l q f d a k0 k1 k2 k3 k4 i s w) {z : Int} (hz : (Lit.int .i32 z).wf = true) : HSt w0 base R C c A l q { f with ve := z } d a k0 k1 k2 k3 k4 i s (w.setCell ⟨w0.heap.size + 1, 5, none⟩ (.int .i32 z)) := by
  obtain ⟨h1, h2, h3, h4, h5⟩ := h.set_ 5 (.int .i32 z)
  have h6 := h.fat.kp h5 (by simp)
  exact ⟨h1, h2, h3, h4, h.old, h.oldC, ⟨h6.d, h6.a, h6.k0, h6.k1, h6.k2, h6.k3, h6.k4, h6.i⟩, ⟨h.ok.t, h.ok.fl, hz, h.ok.ct, h.ok.by_, h.ok.tl, h.ok.zx, h.ok.to, h.ok.p, h.ok.acl, h.ok.ids, h.ok.k0, h.ok.k1, h.ok.k2, h.ok.k3, h.ok.k4⟩⟩
theorem HSt.set_wa (h : HSt w0 base R C c A l q f d a k0 k1 k2 k3 k4 i s w) (b : Bool) : HSt w0 base R C c A l q { f with wa := b } d a k0 k1 k2 k3 k4 i s (w.setCell ⟨w0.heap.size + 1, 6, none⟩ (.bool b)) := by
  obtain ⟨h1, h2, h3, h4, h5⟩ := h.set_ 6 (.bool b)
  have h6 := h.fat.kp h5 (by simp)
  exact ⟨h1, h2, h3, h4, h.old, h.oldC, ⟨h6.d, h6.a, h6.k0, h6.k1, h6.k2, h6.k3, h6.k4, h6.i⟩, ⟨h.ok.t, h.ok.fl, h.ok.ve, h.ok.ct, h.ok.by_, h.ok.tl, h.ok.zx, h.ok.to, h.ok.p, h.ok.acl, h.ok.ids, h.ok.k0, h.ok.k1, h.ok.k2, h.ok.k3, h.ok.k4⟩⟩
theorem HSt.set_ct (h : HSt w0 base R C c A l q f d a k0 k1 k2 k3 k4 i s w) {z : Int} (hz : (Lit.int .i64 z).wf = true) : HSt w0 base R C c A l q { f with ct := z } d a k0 k1 k2 k3 k4 i s (w.setCell ⟨w0.heap.size + 1, 7, none⟩ (.int .i64 z)) := by
  obtain ⟨h1, h2, h3, h4, h5⟩ := h.set_ 7 (.int .i64 z)
  have h6 := h.fat.kp h5 (by simp)
  exact ⟨h1, h2, h3, h4, h.old, h.oldC, ⟨h6.d, h6.a, h6.k0, h6.k1, h6.k2, h6.k3, h6.k4, h6.i⟩, ⟨h.ok.t, h.ok.fl, h.ok.ve, hz, h.ok.by_, h.ok.tl, h.ok.zx, h.ok.to, h.ok.p, h.ok.acl, h.ok.ids, h.ok.k0, h.ok.k1, h.ok.k2, h.ok.k3, h.ok.k4⟩⟩
theorem HSt.set_by (h : HSt w0 base R C c A l q f d a k0 k1 k2 k3 k4 i s w) {z : Int} (hz : (Lit.int .i64 z).wf = true) : HSt w0 base R C c A l q { f with by_ := z } d a k0 k1 k2 k3 k4 i s (w.setCell ⟨w0.heap.size + 1, 8, none⟩ (.int .i64 z)) := by
  obtain ⟨h1, h2, h3, h4, h5⟩ := h.set_ 8 (.int .i64 z)
  have h6 := h.fat.kp h5 (by simp)
  exact ⟨h1, h2, h3, h4, h.old, h.oldC, ⟨h6.d, h6.a, h6.k0, h6.k1, h6.k2, h6.k3, h6.k4, h6.i⟩, ⟨h.ok.t, h.ok.fl, h.ok.ve, h.ok.ct, hz, h.ok.tl, h.ok.zx, h.ok.to, h.ok.p, h.ok.acl, h.ok.ids, h.ok.k0, h.ok.k1, h.ok.k2, h.ok.k3, h.ok.k4⟩⟩
theorem HSt.set_tl (h : HSt w0 base R C c A l q f d a k0 k1 k2 k3 k4 i s w) {z : Int} (hz : (Lit.int .i64 z).wf = true) : HSt w0 base R C c A l q { f with tl := z } d a k0 k1 k2 k3 k4 i s (w.setCell ⟨w0.heap.size + 1, 9, none⟩ (.int .i64 z)) := by
  obtain ⟨h1, h2, h3, h4, h5⟩ := h.set_ 9 (.int .i64 z)
  have h6 := h.fat.kp h5 (by simp)
  exact ⟨h1, h2, h3, h4, h.old, h.oldC, ⟨h6.d, h6.a, h6.k0, h6.k1, h6.k2, h6.k3, h6.k4, h6.i⟩, ⟨h.ok.t, h.ok.fl, h.ok.ve, h.ok.ct, h.ok.by_, hz, h.ok.zx, h.ok.to, h.ok.p, h.ok.acl, h.ok.ids, h.ok.k0, h.ok.k1, h.ok.k2, h.ok.k3, h.ok.k4⟩⟩
theorem HSt.set_zx (h : HSt w0 base R C c A l q f d a k0 k1 k2 k3 k4 i s w) {z : Int} (hz : (Lit.int .i64 z).wf = true) : HSt w0 base R C c A l q { f with zx := z } d a k0 k1 k2 k3 k4 i s (w.setCell ⟨w0.heap.size + 1, 10, none⟩ (.int .i64 z)) := by
  obtain ⟨h1, h2, h3, h4, h5⟩ := h.set_ 10 (.int .i64 z)
  have h6 := h.fat.kp h5 (by simp)
  exact ⟨h1, h2, h3, h4, h.old, h.oldC, ⟨h6.d, h6.a, h6.k0, h6.k1, h6.k2, h6.k3, h6.k4, h6.i⟩, ⟨h.ok.t, h.ok.fl, h.ok.ve, h.ok.ct, h.ok.by_, h.ok.tl, hz, h.ok.to, h.ok.p, h.ok.acl, h.ok.ids, h.ok.k0, h.ok.k1, h.ok.k2, h.ok.k3, h.ok.k4⟩⟩
theorem HSt.set_to (h : HSt w0 base R C c A l q f d a k0 k1 k2 k3 k4 i s w) {z : Int} (hz : (Lit.int .i32 z).wf = true) : HSt w0 base R C c A l q (⟨f.t, f.p, f.l, f.L, f.fl, f.ve, f.wa, f.ct, f.by_, f.tl, f.zx, f.K0, f.K1, f.K2, f.K3, f.K4, z, f.I⟩ : OpF) d a k0 k1 k2 k3 k4 i s (w.setCell ⟨w0.heap.size + 1, 16, none⟩ (.int .i32 z)) := by
  obtain ⟨h1, h2, h3, h4, h5⟩ := h.set_ 16 (.int .i32 z)
  have h6 := h.fat.kp h5 (by simp)
  exact ⟨h1, h2, h3, h4, h.old, h.oldC, ⟨h6.d, h6.a, h6.k0, h6.k1, h6.k2, h6.k3, h6.k4, h6.i⟩, ⟨h.ok.t, h.ok.fl, h.ok.ve, h.ok.ct, h.ok.by_, h.ok.tl, h.ok.zx, hz, h.ok.p, h.ok.acl, h.ok.ids, h.ok.k0, h.ok.k1, h.ok.k2, h.ok.k3, h.ok.k4⟩⟩
theorem HSt.set_i (h : HSt w0 base R C c A l q f d a k0 k1 k2 k3 k4 i s w) {x : List (ByteArray × ByteArray)} {A' : Option Addr} {c' : Nat} (ho : w.ownsRow (w0.heap.size + 2) 102 2 (.slice A' x.length c') x.length (idCells x)) (hr : x.length * 32 ≤ reachBytes) (hx : ∀ y ∈ x, y.1.size ≤ reachBytes ∧ y.2.size ≤ reachBytes) : HSt w0 base R C c A l q { f with I := x } d a k0 k1 k2 k3 k4 ⟨A', x.length, c'⟩ s (w.setCell ⟨w0.heap.size + 1, 17, none⟩ (.slice A' x.length c')) := by
  obtain ⟨h1, h2, h3, h4, h5⟩ := h.set_ 17 (.slice A' x.length c')
  have h6 := h.fat.kp h5 (by simp)
  exact ⟨h1, h2, h3, h4, h.old, h.oldC, ⟨h6.d, h6.a, h6.k0, h6.k1, h6.k2, h6.k3, h6.k4, (SlAt.of_own ho hr).kp h5 (by simp)⟩, ⟨h.ok.t, h.ok.fl, h.ok.ve, h.ok.ct, h.ok.by_, h.ok.tl, h.ok.zx, h.ok.to, h.ok.p, h.ok.acl, hx, h.ok.k0, h.ok.k1, h.ok.k2, h.ok.k3, h.ok.k4⟩⟩
theorem HSt.fin (h : HSt w0 base R C c A l q f d a k0 k1 k2 k3 k4 i s w) (cs : Array Value) : Kp [R, C] w0 (w.setRow w0.heap.size cs) ∧ RR (w.setRow w0.heap.size cs) base R A c l q 0 ∧ FAt (w.setRow w0.heap.size cs) (some w0.heap.size) f d a k0 k1 k2 k3 k4 i := by
  have ho := h.old
  have hoC := h.oldC
  have hlw := h.rdr.old
  have hk : Kp [w0.heap.size] w (w.setRow w0.heap.size cs) := Kp.setRow _ _
  exact ⟨h.kp.to hk (fun _ hx _ => hx) (fun y hy hl => by simp at hy; omega), h.rdr.kp hk (by simp; omega) (fun x hx => by have := h.rdr.low; have := h.blk.lt; simp at hx; omega), (h.fat.kp hk (by simp)).lo (by omega)⟩
end
end Go.Proofs.YtpjjnmdfgcfnmaaGreatDoor
