/- The reader: what it is; failing; what is left; the next bytes. -/
import Derived.Test.YtbegingiedbldaaDoorJw2
import Derived.WalkSmall
import Derived.Shelf.Unicode.DecodeSlow
import Derived.Deep.QuietTactic
import Derived.BigQuiet
namespace Go.Proofs.YtbegingiedbldaaDoor
open Go.RowKit

theorem _root_.Go.Lib.Utf8Tabs.kp {w w' : World} {X : List Nat} {g h : Nat} (ht : Lib.Utf8Tabs g h w) (hk : Kp X w w') (hX : g ∉ X ∧ h ∉ X) (hB : g < w.heap.size ∧ h < w.heap.size) : Lib.Utf8Tabs g h w' := by
  refine ⟨fun c hc => ?_, fun i hi => ?_⟩
  · rw [hk.cell hB.1 hX.1]
    exact ht.1 c hc
  · rw [hk.cell hB.2 hX.2, hk.cell hB.2 hX.2]
    exact ht.2 i hi

/-- a reader at block R: it reads the bytes l, and stands at p. B: the blocks that nobody writes while it reads: those of the bytes and of the library's tables among them -/
structure Rdr (w : World) (B : Nat → Prop) (R : Nat) (A : Option Addr) (c : Nat) (l : List UInt8) (p : Nat) : Prop where
  blk : Blk w R 93 #[.slice A l.length c, .int .i64 p, .bool false]
  reads : Reads w w.heap.size 1 A l.length (bcells l)
  cap : l.length ≤ c
  here : p ≤ l.length
  old : ∀ x, B x → x < R
  len : l.length ≤ 140737488355328
  nil : A = none → c = 0
  tab : Lib.Utf8Tabs 0 1 w
  gl : B 0 ∧ B 1
  glt : 0 < w.heap.size ∧ 1 < w.heap.size
  mine : 0 < l.length → ∀ ad, A = some ad → B ad.block

section
variable {w w' : World} {B : Nat → Prop} {R c p q : Nat} {A : Option Addr} {l : List UInt8} {X : List Nat}
theorem Rdr.new (h : Rdr w B R A c l p) {y : Nat} (hy : R ≤ y) : ¬ B y := fun hb => by have := h.old _ hb; omega
theorem Rdr.lt (h : Rdr w B R A c l p) : R < w.heap.size := h.blk.lt
theorem reads_off {n size : Nat} {xs : List Value} (h : Reads w w.heap.size size A n xs) (hk : Kp X w w') (hX : 0 < n → ∀ ad, A = some ad → ad.block ∉ X) : Reads w' w'.heap.size size A n xs :=
  ⟨h.1, fun hn => by
    obtain ⟨ad, e, hb, hc⟩ := h.2 hn
    refine ⟨ad, e, Nat.lt_of_lt_of_le hb hk.size, fun j u hu => ?_⟩
    rw [hk.cell (by rw [block_of_add]; exact hb) (by rw [block_of_add]; exact hX hn ad e)]
    exact hc j u hu⟩
theorem Rdr.kp (h : Rdr w B R A c l p) (hk : Kp X w w') (hR : R ∉ X) (hX : ∀ x ∈ X, ¬ B x) : Rdr w' B R A c l p :=
  ⟨h.blk.kp hk hR, reads_off h.reads hk (fun hn ad e hx => hX _ hx (h.mine hn ad e)), h.cap, h.here, h.old, h.len, h.nil, h.tab.kp hk ⟨fun hx => hX _ hx h.gl.1, fun hx => hX _ hx h.gl.2⟩ h.glt, h.gl, ⟨Nat.lt_of_lt_of_le h.glt.1 hk.size, Nat.lt_of_lt_of_le h.glt.2 hk.size⟩, h.mine⟩
theorem Rdr.later (h : Rdr w B R A c l p) (hb : Below w.heap.size w w') : Rdr w' B R A c l p := h.kp (Kp.of_below (X := []) hb) (fun h => by cases h) (fun _ h => by cases h)
theorem Rdr.move (h : Rdr w B R A c l p) (hq : q ≤ l.length) : Rdr (w.setCell ⟨R, 1, none⟩ (.int .i64 q)) B R A c l q := by
  have hk : Kp [R] w (w.setCell ⟨R, 1, none⟩ (.int .i64 q)) := Kp.setCell ⟨R, 1, none⟩ _
  have hX : ∀ x ∈ [R], ¬ B x := fun x hx hb => by rw [List.mem_singleton.1 hx] at hb; exact Nat.lt_irrefl _ (h.old _ hb)
  exact ⟨h.blk.set_ 1 _, reads_off h.reads hk (fun hn ad e hx => hX _ hx (h.mine hn ad e)), h.cap, hq, h.old, h.len, h.nil, h.tab.kp hk ⟨fun hx => hX _ hx h.gl.1, fun hx => hX _ hx h.gl.2⟩ h.glt, h.gl, ⟨Nat.lt_of_lt_of_le h.glt.1 hk.size, Nat.lt_of_lt_of_le h.glt.2 hk.size⟩, h.mine⟩
theorem Rdr.cells (h : Rdr w B R A c l p) : w.cell? ⟨R, 0, none⟩ = some (.slice A l.length c) ∧ w.cell? ⟨R, 1, none⟩ = some (.int .i64 p) ∧ w.cell? ⟨R, 2, none⟩ = some (.bool false) ∧ w.frozen? ⟨R, 1, none⟩ = false := by
  refine ⟨?_, ?_, ?_, h.blk.frozen 1⟩
  · rw [h.blk.cell 0]; rfl
  · rw [h.blk.cell 1]; rfl
  · rw [h.blk.cell 2]; rfl
end

/-- the panic by which a reader fails -/
def fails (R : Nat) (er : Int) : List PanicEntry := [{ v := .iface 95 (.agg #[.pointer (some ⟨R, 0, none⟩), .int .i64 er]), recovered := false }]

set_option maxRecDepth 100000 in
set_option maxHeartbeats 400000 in
theorem done_any (B : Nat → Prop) (R c p : Nat) (A : Option Addr) (l : List UInt8) (w : World) (h : Rdr w B R A c l p) :
    Calls Tryd.prog 52 #[.pointer (some ⟨R, 0, none⟩)] w fun e w' => e = .returned (.bool false) ∧ w = w' := by
  obtain ⟨c0, c1, c2, f1⟩ := h.cells
  clear h
  go_enter Tryd.func52, Tryd.ntmps52
  go_wp2
  go_ret
  exact ⟨rfl, rfl⟩

set_option maxRecDepth 100000 in
set_option maxHeartbeats 400000 in
theorem fail_any (B : Nat → Prop) (R c p : Nat) (A : Option Addr) (l : List UInt8) (er : Int) (he : (er != 0) = true) (w : World) (h : Rdr w B R A c l p) :
    Calls Tryd.prog 42 #[.pointer (some ⟨R, 0, none⟩), .int .i64 er] w fun e w' => e = .panicked (fails R er) ∧ w = w' := by
  have H := Lib.hid h
  clear h
  go_enter Tryd.func42, Tryd.ntmps42
  go_wp2_with (go_at_call 52; refine (done_any B R c p A l w H.out).mono ?_; rintro e w2 ⟨rfl, rfl⟩)
  exact ⟨rfl, rfl, rfl⟩

set_option maxRecDepth 100000 in
set_option maxHeartbeats 400000 in
theorem left_any (B : Nat → Prop) (R c p : Nat) (A : Option Addr) (l : List UInt8) (w : World) (h : Rdr w B R A c l p) :
    Calls Tryd.prog 27 #[.pointer (some ⟨R, 0, none⟩)] w fun e w' => e = .returned (.int .i64 ((l.length - p : Nat) : Int)) ∧ ∃ n, w' = w.drewN n := by
  have H := Lib.hid h
  obtain ⟨c0, c1, c2, f1⟩ := h.cells
  have hp := h.here
  have hl := h.len
  have e : ((l.length - p : Nat) : Int) = (l.length : Int) - p := by omega
  rw [e]
  clear h e
  go_enter Tryd.func27, Tryd.ntmps27
  go_wp2_with (go_at_call 52; refine (done_any B R c p A l w H.out).mono ?_; rintro e w2 ⟨rfl, rfl⟩)
  go_quiet (fail)
  go_wp2
  go_ret
  exact ⟨rfl, _, rfl⟩
end Go.Proofs.YtbegingiedbldaaDoor
