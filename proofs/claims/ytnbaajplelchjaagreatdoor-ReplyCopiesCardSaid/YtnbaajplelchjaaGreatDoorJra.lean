/- The reader: what it is; failing; what is left; the next bytes. -/
import Derived.Test.YtnbaajplelchjaaGreatDoorJw
import Derived.WalkSmall
import Derived.Shelf.Unicode.DecodeSlow
import Derived.Deep.QuietTactic
import Derived.BigQuiet
import Derived.Laws.BitsAllLaws
import Derived.Lib.ValidU
set_option linter.unusedVariables false
set_option linter.unusedSimpArgs false
namespace Go.Proofs.YtnbaajplelchjaaGreatDoor
open Go.RowKit

theorem _root_.Go.Lib.Utf8Tabs.kp {w w' : World} {X : List Nat} {g h : Nat} (ht : Lib.Utf8Tabs g h w) (hk : Kp X w w') (hX : g ∉ X ∧ h ∉ X) (hB : g < w.heap.size ∧ h < w.heap.size) : Lib.Utf8Tabs g h w' := by
  refine ⟨fun c hc => ?_, fun i hi => ?_⟩
  · rw [hk.cell hB.1 hX.1]
    exact ht.1 c hc
  · rw [hk.cell hB.2 hX.2, hk.cell hB.2 hX.2]
    exact ht.2 i hi

/-- a reader at block R: it reads the bytes l, and stands at p. B: the blocks that nobody writes while it reads: those of the bytes and of the library's tables among them -/
structure Rdr (w : World) (B : Nat → Prop) (R : Nat) (A : Option Addr) (c : Nat) (l : List UInt8) (p : Nat) : Prop where
  blk : Blk w R 196 #[.slice A l.length c, .int .i64 p, .bool false]
  reads : Reads w w.heap.size 1 A l.length (bcells l)
  cap : l.length ≤ c
  here : p ≤ l.length
  old : ∀ x, B x → x < R
  len : l.length ≤ 140737488355328
  nil : A = none → c = 0
  tab : Lib.Utf8Tabs 0 1 w
  gl : B 0 ∧ B 1
  glt : 0 < w.heap.size ∧ 1 < w.heap.size
  mine : 0 < l.length → ∀ ad, A = some ad → B ad.block

section
variable {w w' : World} {B : Nat → Prop} {R c p q : Nat} {A : Option Addr} {l : List UInt8} {X : List Nat}
theorem Rdr.new (h : Rdr w B R A c l p) {y : Nat} (hy : R ≤ y) : ¬ B y := fun hb => by have := h.old _ hb; omega
theorem Rdr.lt (h : Rdr w B R A c l p) : R < w.heap.size := h.blk.lt
theorem reads_off {n size : Nat} {xs : List Value} (h : Reads w w.heap.size size A n xs) (hk : Kp X w w') (hX : 0 < n → ∀ ad, A = some ad → ad.block ∉ X) : Reads w' w'.heap.size size A n xs :=
  ⟨h.1, fun hn => by
    obtain ⟨ad, e, hb, hc⟩ := h.2 hn
    refine ⟨ad, e, Nat.lt_of_lt_of_le hb hk.size, fun j u hu => ?_⟩
    rw [hk.cell (by rw [block_of_add]; exact hb) (by rw [block_of_add]; exact hX hn ad e)]
    exact hc j u hu⟩
theorem Rdr.kp (h : Rdr w B R A c l p) (hk : Kp X w w') (hR : R ∉ X) (hX : ∀ x ∈ X, ¬ B x) : Rdr w' B R A c l p :=
  ⟨h.blk.kp hk hR, reads_off h.reads hk (fun hn ad e hx => hX _ hx (h.mine hn ad e)), h.cap, h.here, h.old, h.len, h.nil, h.tab.kp hk ⟨fun hx => hX _ hx h.gl.1, fun hx => hX _ hx h.gl.2⟩ h.glt, h.gl, ⟨Nat.lt_of_lt_of_le h.glt.1 hk.size, Nat.lt_of_lt_of_le h.glt.2 hk.size⟩, h.mine⟩
theorem Rdr.later (h : Rdr w B R A c l p) (hb : Below w.heap.size w w') : Rdr w' B R A c l p := h.kp (Kp.of_below (X := []) hb) (fun h => by cases h) (fun _ h => by cases h)
theorem Rdr.move (h : Rdr w B R A c l p) (hq : q ≤ l.length) : Rdr (w.setCell ⟨R, 1, none⟩ (.int .i64 q)) B R A c l q := by
  have hk : Kp [R] w (w.setCell ⟨R, 1, none⟩ (.int .i64 q)) := Kp.setCell ⟨R, 1, none⟩ _
  have hX : ∀ x ∈ [R], ¬ B x := fun x hx hb => by rw [List.mem_singleton.1 hx] at hb; exact Nat.lt_irrefl _ (h.old _ hb)
  exact ⟨h.blk.set_ 1 _, reads_off h.reads hk (fun hn ad e hx => hX _ hx (h.mine hn ad e)), h.cap, hq, h.old, h.len, h.nil, h.tab.kp hk ⟨fun hx => hX _ hx h.gl.1, fun hx => hX _ hx h.gl.2⟩ h.glt, h.gl, ⟨Nat.lt_of_lt_of_le h.glt.1 hk.size, Nat.lt_of_lt_of_le h.glt.2 hk.size⟩, h.mine⟩
theorem Rdr.cells (h : Rdr w B R A c l p) : w.cell? ⟨R, 0, none⟩ = some (.slice A l.length c) ∧ w.cell? ⟨R, 1, none⟩ = some (.int .i64 p) ∧ w.cell? ⟨R, 2, none⟩ = some (.bool false) ∧ w.frozen? ⟨R, 1, none⟩ = false := by
  refine ⟨?_, ?_, ?_, h.blk.frozen 1⟩
  · rw [h.blk.cell 0]; rfl
  · rw [h.blk.cell 1]; rfl
  · rw [h.blk.cell 2]; rfl
end

/-- the panic by which a reader fails -/
def fails (R : Nat) (er : Int) : List PanicEntry := [{ v := .iface 147 (.agg #[.pointer (some ⟨R, 0, none⟩), .int .i64 er]), recovered := false }]

set_option maxRecDepth 100000 in
set_option maxHeartbeats 400000 in
theorem done_any (B : Nat → Prop) (R c p : Nat) (A : Option Addr) (l : List UInt8) (w : World) (h : Rdr w B R A c l p) :
    Calls Tryz.prog 100 #[.pointer (some ⟨R, 0, none⟩)] w fun e w' => e = .returned (.bool false) ∧ w = w' := by
  obtain ⟨c0, c1, c2, f1⟩ := h.cells
  clear h
  go_enter Tryz.func100, Tryz.ntmps100
  go_wp2
  go_ret
  exact ⟨rfl, rfl⟩

set_option maxRecDepth 100000 in
set_option maxHeartbeats 400000 in
theorem fail_any (B : Nat → Prop) (R c p : Nat) (A : Option Addr) (l : List UInt8) (er : Int) (he : (er != 0) = true) (w : World) (h : Rdr w B R A c l p) :
    Calls Tryz.prog 51 #[.pointer (some ⟨R, 0, none⟩), .int .i64 er] w fun e w' => e = .panicked (fails R er) ∧ w = w' := by
  have H := Lib.hid h
  clear h
  go_enter Tryz.func51, Tryz.ntmps51
  go_wp2_with (go_at_call 100; refine (done_any B R c p A l w H.out).mono ?_; rintro e w2 ⟨rfl, rfl⟩)
  exact ⟨rfl, rfl, rfl⟩

set_option maxRecDepth 100000 in
set_option maxHeartbeats 400000 in
theorem left_any (B : Nat → Prop) (R c p : Nat) (A : Option Addr) (l : List UInt8) (w : World) (h : Rdr w B R A c l p) :
    Calls Tryz.prog 150 #[.pointer (some ⟨R, 0, none⟩)] w fun e w' => e = .returned (.int .i64 ((l.length - p : Nat) : Int)) ∧ ∃ n, w' = w.drewN n := by
  have H := Lib.hid h
  obtain ⟨c0, c1, c2, f1⟩ := h.cells
  have hp := h.here
  have hl := h.len
  have e : ((l.length - p : Nat) : Int) = (l.length : Int) - p := by omega
  rw [e]
  clear h e
  go_enter Tryz.func150, Tryz.ntmps150
  go_wp2_with (go_at_call 100; refine (done_any B R c p A l w H.out).mono ?_; rintro e w2 ⟨rfl, rfl⟩)
  go_quiet (fail)
  go_wp2
  go_ret
  exact ⟨rfl, _, rfl⟩
end Go.Proofs.YtnbaajplelchjaaGreatDoor
/- The reader: the next bytes. -/
namespace Go.Proofs.YtnbaajplelchjaaGreatDoor
open Go.RowKit

theorem reads_zero (w : World) (B : Nat) (A : Option Addr) : Reads w B 1 A 0 [] := ⟨by simp, fun h => absurd h (by omega)⟩
theorem reads_part {w : World} {B n p k : Nat} {A : Option Addr} {l : List UInt8} (h : Reads w B 1 A n (bcells l)) (hp : p + k ≤ n) : Reads w B 1 (A.map fun x => x.add p) k (bcells ((l.drop p).take k)) := by
  have hl : l.length = n := by have := h.1; rw [bcells_length] at this; omega
  refine ⟨by rw [bcells_length, List.length_take, List.length_drop]; omega, fun hk => ?_⟩
  obtain ⟨ad, rfl, hb, hc⟩ := h.2 (by omega)
  refine ⟨ad.add p, rfl, by rw [block_of_add]; exact hb, fun j u hu => ?_⟩
  rw [add_of_add]
  refine hc _ u ?_
  rw [bcells_get] at hu ⊢
  rw [List.getElem?_take] at hu
  split at hu
  · rwa [List.getElem?_drop] at hu
  · cases hu

set_option maxRecDepth 100000 in
set_option maxHeartbeats 400000 in
theorem next_ok (B : Nat → Prop) (R c p : Nat) (A : Option Addr) (l : List UInt8) (k : Int) (h0 : 0 ≤ k) (w : World) (h : Rdr w B R A c l p) (hk : p + k ≤ l.length) :
    Calls Tryz.prog 102 #[.pointer (some ⟨R, 0, none⟩), .int .i64 k] w fun e w' => (∃ A' c', e = .returned (.slice A' k.toNat c') ∧ Reads w' w'.heap.size 1 A' k.toNat (bcells ((l.drop p).take k.toNat)) ∧ (A' = none → k.toNat = 0 ∧ c' = 0) ∧ k.toNat ≤ c') ∧ Kp [R] w w' ∧ Rdr w' B R A c l (p + k.toNat) := by
  obtain ⟨k, rfl⟩ := Int.eq_ofNat_of_zero_le h0
  rw [Int.toNat_natCast]
  have H := Lib.hid h
  obtain ⟨c0, c1, c2, f1⟩ := h.cells
  have hp := h.here
  have hl := h.len
  have hc := h.cap
  clear h h0
  go_enter Tryz.func102, Tryz.ntmps102
  go_wp2_with (go_at_call 150; refine (left_any B R c p A l w H.out).mono ?_; rintro e w2 ⟨rfl, n0, rfl⟩)
  go_quiet (fail)
  go_wp2
  · obtain rfl : c = p := by assumption
    have hk0 : k = 0 := by omega
    go_ret
    exact ⟨⟨A, 0, rfl, by rw [hk0]; simpa [bcells] using reads_zero _ _ _, fun _ => by simp [hk0], by simp [hk0]⟩, (Kp.drewN (n0 + nq)).to (Kp.setCell _ _) (fun _ h _ => h) (fun _ h _ => by simpa using h), (H.out.later (below_drewN' (Below.refl _ _) (n0 + nq))).move (q := c + k) (by omega)⟩
  · have hcp : ¬c = p := by assumption
    go_ret
    exact ⟨⟨_, _, rfl, reads_part ((H.out.later (below_drewN' (Below.refl _ _) (n0 + nq))).move (q := p + k) (by omega)).reads (by omega), (fun hA => by
      cases A with
      | none => have := H.out.nil rfl; omega
      | some ad => cases hA), by omega⟩, (Kp.drewN (n0 + nq)).to (Kp.setCell _ _) (fun _ h _ => h) (fun _ h _ => by simpa using h), (H.out.later (below_drewN' (Below.refl _ _) (n0 + nq))).move (by omega)⟩

set_option maxRecDepth 100000 in
set_option maxHeartbeats 400000 in
theorem next_no (B : Nat → Prop) (R c p : Nat) (A : Option Addr) (l : List UInt8) (k : Int) (w : World) (h : Rdr w B R A c l p) (hk : (l.length : Int) < p + k) :
    Calls Tryz.prog 102 #[.pointer (some ⟨R, 0, none⟩), .int .i64 k] w fun e w' => e = .panicked (fails R 20) ∧ Kp [R] w w' ∧ Rdr w' B R A c l p := by
  have H := Lib.hid h
  obtain ⟨c0, c1, c2, f1⟩ := h.cells
  have hp := h.here
  have hl := h.len
  have hc := h.cap
  have e : ((l.length - p : Nat) : Int) = (l.length : Int) - p := by omega
  have HE := Lib.hid e
  clear h e
  go_enter Tryz.func102, Tryz.ntmps102
  go_wp2_with (first
    | (go_at_call 150; refine (left_any B R c p A l w H.out).mono ?_; rintro e w2 ⟨rfl, n0, rfl⟩; rw [HE.out])
    | (go_at_call 51; refine (fail_any B R c p A l 20 rfl _ (H.out.later (below_drewN' (Below.refl _ _) n0))).mono ?_; rintro e w2 ⟨rfl, rfl⟩))
  exact ⟨rfl, rfl, Kp.drewN n0, H.out.later (below_drewN' (Below.refl _ _) n0)⟩
end Go.Proofs.YtnbaajplelchjaaGreatDoor
/- The reader: bytes as a number. -/
namespace Go.Proofs.YtnbaajplelchjaaGreatDoor
open Go.RowKit

theorem shl8_or (a b : Nat) (ha : a < 72057594037927936) (hb : b < 256) : bits BinOp.or IntKind.u64 (IntKind.u64.wrap ((a : Int) * 256)) (IntKind.u64.wrap (b : Int)) = ((a * 256 + b : Nat) : Int) := by
  rw [IntKind.wrap_u64, IntKind.wrap_u64]
  have e1 : (a : Int) * 256 % 18446744073709551616 = ((a * 256 : Nat) : Int) := by omega
  have e2 : (b : Int) % 18446744073709551616 = (b : Int) := by omega
  rw [e1, e2, u64_or_nat _ _ (by omega) (by omega)]
  have h := Nat.shiftLeft_add_eq_or_of_lt (i := 8) (b := b) (by omega) a
  rw [Nat.shiftLeft_eq] at h
  rw [← h]

set_option maxRecDepth 100000 in
set_option maxHeartbeats 400000 in
theorem rnumber_any (A : Option Addr) (n c B : Nat) (l : List UInt8) (w : World) (hr : Reads w B 1 A n (bcells l)) (hn : n ≤ 8) :
    Calls Tryz.prog 101 #[.slice A n c] w fun e w' => e = .returned (.int .u64 (beNum l)) ∧ w = w' := by
  have hl : l.length = n := by have := hr.1; rw [bcells_length] at this; omega
  subst hl
  have HR := Lib.hid hr
  clear hr
  go_enter Tryz.func101, Tryz.ntmps101
  go_wp2
  go_loop [3, 8] (fun m i => ∃ k : Nat, k ≤ l.length ∧ i = .int .i64 k ∧ m = .int .u64 (beNum (l.take k))) (fun _ i => l.length - (intOf i).toNat)
  case atStart => exact ⟨0, Nat.zero_le _, rfl, rfl⟩
  case round =>
    obtain ⟨k, hk, rfl, rfl⟩ := hrel
    by_cases hlt : k < l.length
    · obtain ⟨ad, u, rfl, _, hu, hcell⟩ := HR.out.at_ hlt
      have hget : u = .int .u8 (l[k].toNat : Int) := by
        simp only [bcells_get, List.getElem?_eq_getElem hlt, Option.map_some, Option.some.injEq] at hu
        exact hu.symm
      subst hget
      clear hu
      have HE : Hid (bits BinOp.or IntKind.u64 (IntKind.u64.wrap (↑(beNum (List.take k l)) * 256)) (IntKind.u64.wrap ↑l[k].toNat) = ((beNum (l.take (k + 1)) : Nat) : Int)) := by
        show _ = _
        rw [List.take_succ_eq_append_getElem hlt, beNum_snoc]
        refine shl8_or _ _ ?_ l[k].toNat_lt
        have h1 := beNum_lt (l.take k)
        have h2 : (l.take k).length ≤ 7 := by rw [List.length_take]; omega
        have h3 : 256 ^ (l.take k).length ≤ 256 ^ 7 := Nat.pow_le_pow_right (by decide) h2
        have h4 : (256 : Nat) ^ 7 = 72057594037927936 := by decide
        omega
      go_wp2
      go_round
      case rel => exact ⟨k + 1, by omega, by go_num, by rw [HE.out]⟩
      case measure => simp [intOf]; omega
    · have hkl : k = l.length := by omega
      have HK := Lib.hid hkl
      clear hkl
      go_wp2
      go_ret
      exact ⟨congrArg (fun q : List UInt8 => Ending.returned (.int .u64 (beNum q : Int))) (by rw [HK.out, List.take_of_length_le (Nat.le_refl _)]), rfl⟩
end Go.Proofs.YtnbaajplelchjaaGreatDoor
/- What a reading of bytes comes to: plain functions. -/
namespace Go.Proofs.YtnbaajplelchjaaGreatDoor
open Go.RowKit

/-- a reading: of the bytes, from a place on: a value and the place behind it; or the error and the place where it fails -/
def Rg (α : Type) : Type := List UInt8 → Nat → (α × Nat) ⊕ (Int × Nat)
def Rg.ret {α : Type} (x : α) : Rg α := fun _ p => .inl (x, p)
def Rg.bind {α β : Type} (f : Rg α) (g : α → Rg β) : Rg β := fun l p =>
  match f l p with
  | .inl (x, q) => g x l q
  | .inr e => .inr e
def Rg.map {α β : Type} (f : α → β) (g : Rg α) : Rg β := fun l p =>
  match g l p with
  | .inl (x, q) => .inl (f x, q)
  | .inr e => .inr e

def gNext (k : Nat) : Rg (List UInt8) := fun l p => if p + k ≤ l.length then .inl ((l.drop p).take k, p + k) else .inr (20, p)
def gNum (k : Nat) : Rg Nat := (gNext k).map beNum
def gBool : Rg Bool := fun l p =>
  match gNum 1 l p with
  | .inl (n, q) => if 1 < n then .inr (22, p) else .inl (n == 1, q)
  | .inr e => .inr e
def gByte : Rg Nat := gNum 1
def gInt : Rg Int := (gNum 4).map fun n : Nat => wrap32 n
def gLong : Rg Int := (gNum 8).map fun n : Nat => wrap64 n
def gSize (most : Int) : Rg Nat := fun l p =>
  match gInt l p with
  | .inl (n, q) => if n < 0 ∨ most < n then .inr (22, p) else .inl (n.toNat, q)
  | .inr e => .inr e
def gBuf (most : Int) : Rg (List UInt8) := fun l p =>
  match gSize most l p with
  | .inl (n, q) => if q + n ≤ l.length then .inl ((l.drop q).take n, q + n) else .inr (20, p)
  | .inr e => .inr e
def gText (most : Int) : Rg (List UInt8) := fun l p =>
  match gBuf most l p with
  | .inl (b, q) => if Lib.validD b = true then .inl (b, q) else .inr (22, p)
  | .inr e => .inr e
def gCount (most least : Int) : Rg Nat := fun l p =>
  match gSize most l p with
  | .inl (n, q) => if 1 ≤ least ∧ ((l.length - q : Nat) : Int) / least < n then .inr (20, p) else .inl (n, q)
  | .inr e => .inr e
def gLeft : Rg Int := fun l p => .inl (((l.length - p : Nat) : Int), p)
def gFail (e : Int) : Rg Unit := fun _ p => if e = 0 then .inl ((), p) else .inr (e, p)

/-- so many, one behind the other -/
def gMany {α : Type} (g : Rg α) : Nat → Rg (List α)
  | 0 => Rg.ret []
  | n + 1 => g.bind fun x => (gMany g n).map fun r => x :: r
/-- a count, and so many -/
def gGet {α : Type} (most least : Int) (g : Rg α) : Rg (List α) := (gCount most least).bind fun n => gMany g n

/-- a reading stays among the bytes and goes on -/
def Rg.Ok {α : Type} (g : Rg α) : Prop := ∀ l p, p ≤ l.length → match g l p with
  | .inl (_, q) => p ≤ q ∧ q ≤ l.length
  | .inr (e, q) => p ≤ q ∧ q ≤ l.length ∧ e ≠ 0

section
variable {l : List UInt8} {p q k n : Nat} {x : List UInt8} {most least z e : Int}
theorem gNext_inl (h : gNext k l p = .inl (x, q)) : p + k ≤ l.length ∧ x = (l.drop p).take k ∧ q = p + k ∧ x.length = k := by
  unfold gNext at h
  split at h
  · simp only [Sum.inl.injEq, Prod.mk.injEq] at h
    obtain ⟨rfl, rfl⟩ := h
    exact ⟨by assumption, rfl, rfl, by simp; omega⟩
  · cases h
theorem gNum_inl (h : gNum k l p = .inl (n, q)) : p + k ≤ l.length ∧ n = beNum ((l.drop p).take k) ∧ q = p + k ∧ n < 256 ^ k := by
  unfold gNum Rg.map at h
  split at h
  · rename_i y r hy
    simp only [Sum.inl.injEq, Prod.mk.injEq] at h
    obtain ⟨rfl, rfl⟩ := h
    obtain ⟨h1, rfl, rfl, h4⟩ := gNext_inl hy
    have := beNum_lt ((l.drop p).take k)
    rw [h4] at this
    exact ⟨h1, rfl, rfl, this⟩
  · cases h
theorem gInt_inl (h : gInt l p = .inl (z, q)) : p + 4 ≤ l.length ∧ z = wrap32 (beNum ((l.drop p).take 4)) ∧ q = p + 4 := by
  unfold gInt Rg.map at h
  split at h
  · rename_i y r hy
    simp only [Sum.inl.injEq, Prod.mk.injEq] at h
    obtain ⟨rfl, rfl⟩ := h
    obtain ⟨h1, rfl, rfl, _⟩ := gNum_inl hy
    exact ⟨h1, rfl, rfl⟩
  · cases h
theorem wrap32_bd (z : Int) : -2147483648 ≤ wrap32 z ∧ wrap32 z ≤ 2147483647 := by unfold wrap32; omega
theorem gSize_inl (h : gSize most l p = .inl (n, q)) : p + 4 ≤ l.length ∧ q = p + 4 ∧ (n : Int) ≤ most ∧ n ≤ 2147483647 ∧ gInt l p = .inl ((n : Int), q) := by
  unfold gSize at h
  split at h
  · rename_i y r hy
    obtain ⟨h1, h2, rfl⟩ := gInt_inl hy
    split at h
    · cases h
    · simp only [Sum.inl.injEq, Prod.mk.injEq] at h
      obtain ⟨rfl, rfl⟩ := h
      have hb := wrap32_bd (beNum ((l.drop p).take 4))
      rw [← h2] at hb
      have e : ((y.toNat : Nat) : Int) = y := by omega
      rw [e]
      exact ⟨h1, rfl, by omega, by omega, hy⟩
  · cases h
end
end Go.Proofs.YtnbaajplelchjaaGreatDoor
/- The reader: bools, bytes, numbers. -/
namespace Go.Proofs.YtnbaajplelchjaaGreatDoor
open Go.RowKit

/-- behind a reading whose outcome is r -/
def Rend {α : Type} (B : Nat → Prop) (R c : Nat) (A : Option Addr) (l : List UInt8) (val : α → Value → World → Prop) (r : (α × Nat) ⊕ (Int × Nat)) (w : World) (e : Ending) (w' : World) : Prop :=
  match r with
  | .inl (x, q) => (∃ v, e = .returned v ∧ val x v w') ∧ Kp [R] w w' ∧ Rdr w' B R A c l q
  | .inr (er, q) => e = .panicked (fails R er) ∧ Kp [R] w w' ∧ Rdr w' B R A c l q

theorem Rend.split {α : Type} {B : Nat → Prop} {R c : Nat} {A : Option Addr} {l : List UInt8} {val : α → Value → World → Prop} {r : (α × Nat) ⊕ (Int × Nat)} {w : World} {e : Ending} {w' : World} (h : Rend B R c A l val r w e w') :
    (∃ x q v, r = .inl (x, q) ∧ e = .returned v ∧ val x v w' ∧ Kp [R] w w' ∧ Rdr w' B R A c l q) ∨ (∃ er q, r = .inr (er, q) ∧ e = .panicked (fails R er) ∧ Kp [R] w w' ∧ Rdr w' B R A c l q) := by
  rcases r with ⟨x, q⟩ | ⟨er, q⟩
  · obtain ⟨⟨v, h1, h2⟩, h3, h4⟩ := h
    exact .inl ⟨x, q, v, rfl, h1, h2, h3, h4⟩
  · obtain ⟨h1, h3, h4⟩ := h
    exact .inr ⟨er, q, rfl, h1, h3, h4⟩
theorem Rend.yes {α : Type} {B : Nat → Prop} {R c : Nat} {A : Option Addr} {l : List UInt8} {val : α → Value → World → Prop} {r : (α × Nat) ⊕ (Int × Nat)} {w : World} {v : Value} {w' : World} {x : α} {q : Nat} (hr : r = .inl (x, q)) (hv : val x v w') (hk : Kp [R] w w') (hR : Rdr w' B R A c l q) : Rend B R c A l val r w (.returned v) w' := by
  subst hr
  exact ⟨⟨v, rfl, hv⟩, hk, hR⟩
theorem Rend.no {α : Type} {B : Nat → Prop} {R c : Nat} {A : Option Addr} {l : List UInt8} {val : α → Value → World → Prop} {r : (α × Nat) ⊕ (Int × Nat)} {w : World} {w' : World} {er : Int} {q : Nat} (hr : r = .inr (er, q)) (hk : Kp [R] w w') (hR : Rdr w' B R A c l q) : Rend B R c A l val r w (.panicked (fails R er)) w' := by
  subst hr
  exact ⟨rfl, hk, hR⟩

def vBool (b : Bool) (v : Value) (_ : World) : Prop := v = .bool b
def vByte (n : Nat) (v : Value) (_ : World) : Prop := v = .int .u8 n
def vInt32 (n : Int) (v : Value) (_ : World) : Prop := v = .int .i32 n
def vInt64 (n : Int) (v : Value) (_ : World) : Prop := v = .int .i64 n
def vNat (n : Nat) (v : Value) (_ : World) : Prop := v = .int .i64 n

set_option maxRecDepth 100000 in
set_option maxHeartbeats 400000 in
theorem back_any (B : Nat → Prop) (R c p : Nat) (A : Option Addr) (l : List UInt8) (k er : Int) (h0 : 0 ≤ k) (hk : k ≤ p) (he : (er != 0) = true) (w : World) (h : Rdr w B R A c l p) :
    Calls Tryz.prog 122 #[.pointer (some ⟨R, 0, none⟩), .int .i64 k, .int .i64 er] w fun e w' => e = .panicked (fails R er) ∧ Kp [R] w w' ∧ Rdr w' B R A c l (p - k.toNat) := by
  have H := Lib.hid h
  obtain ⟨c0, c1, c2, f1⟩ := h.cells
  have hp := h.here
  have hl := h.len
  have e : ((p - k.toNat : Nat) : Int) = (p : Int) - k := by omega
  have HM := h.move (q := p - k.toNat) (by omega)
  rw [e] at HM
  have HM := Lib.hid HM
  clear h e
  go_enter Tryz.func122, Tryz.ntmps122
  go_wp2_with (go_at_call 51; refine (fail_any B R c (p - k.toNat) A l er he _ HM.out).mono ?_; rintro e w2 ⟨rfl, rfl⟩)
  exact ⟨rfl, rfl, Kp.setCell ⟨R, 1, none⟩ _, HM.out⟩

theorem take_one {l : List UInt8} {p : Nat} (h : p < l.length) : (l.drop p).take 1 = [l[p]] := by
  rw [List.drop_eq_getElem_cons h]; rfl

theorem slice_one {w : World} {B n : Nat} {A : Option Addr} {b : UInt8} (h : Reads w B 1 A n (bcells [b])) : ∃ ad, A = some ad ∧ w.cell? ad = some (.int .u8 b.toNat) := by
  have hn : n = 1 := by have := h.1; simp [bcells] at this; omega
  subst hn
  obtain ⟨ad, u, e, _, hu, hc⟩ := h.at_ (k := 0) (by omega)
  simp [bcells] at hu
  subst hu
  exact ⟨ad, e, by simpa [Addr.add] using hc⟩

theorem beNum_one (b : UInt8) : beNum [b] = b.toNat := by simp [beNum]

set_option maxRecDepth 100000 in
set_option maxHeartbeats 400000 in
theorem rBool_any (B : Nat → Prop) (R c p : Nat) (A : Option Addr) (l : List UInt8) (w : World) (h : Rdr w B R A c l p) :
    Calls Tryz.prog 156 #[.pointer (some ⟨R, 0, none⟩)] w fun e w' => Rend B R c A l vBool (gBool l p) w e w' := by
  have H := Lib.hid h
  by_cases hk : p + 1 ≤ l.length
  · have hg : gNum 1 l p = .inl (l[p].toNat, p + 1) := by
      simp [gNum, Rg.map, gNext, hk, take_one (show p < l.length by omega), beNum]
    have HT := Lib.hid (take_one (show p < l.length by omega))
    have hk1 : (p : Int) + 1 ≤ l.length := by omega
    have hb : l[p].toNat < 256 := l[p].toNat_lt
    by_cases h1 : 1 < l[p].toNat
    · have hg : gBool l p = .inr (22, p) := by unfold gBool; rw [hg]; exact if_pos h1
      have HG := Lib.hid hg
      have h1' : (1 : Int) < (l[p].toNat : Int) := by omega
      clear h hg
      go_enter Tryz.func156, Tryz.ntmps156
      go_wp2_with (first
        | (go_at_call 100; refine (done_any B R c p A l w H.out).mono ?_; rintro e w2 ⟨rfl, rfl⟩)
        | (go_at_call 102; refine (next_ok B R c p A l 1 (by omega) w H.out hk1).mono ?_; rintro e w2 ⟨⟨A', c', rfl, hr, hn⟩, hkp, hR⟩; have hr' : Reads w2 w2.heap.size 1 A' 1 (bcells [l[p]]) := by rw [← HT.out]; exact hr
           obtain ⟨ad, rfl, hcell⟩ := slice_one hr'; have HKP := Lib.hid hkp; have HR := Lib.hid hR; clear hr hr' hn hkp hR)
        | (go_at_call 122; refine (back_any B R c _ A l 1 22 (by omega) (by simp; omega) rfl _ HR.out).mono ?_; rintro e w3 ⟨rfl, hk3, hR3⟩; have HK3 := Lib.hid hk3; have HR3 := Lib.hid hR3; clear hk3 hR3))
      exact ⟨rfl, Rend.no HG.out (HKP.out.trans HK3.out) HR3.out⟩
    · have hg : gBool l p = .inl (l[p].toNat == 1, p + 1) := by unfold gBool; rw [hg]; exact if_neg h1
      have HG := Lib.hid hg
      have h1' : ¬ (1 : Int) < (l[p].toNat : Int) := by omega
      have hq : ((l[p].toNat : Int) == 1) = (l[p].toNat == 1) := by rw [Bool.eq_iff_iff]; simp; omega
      have HQ := Lib.hid hq
      clear h hg hq
      go_enter Tryz.func156, Tryz.ntmps156
      go_wp2_with (first
        | (go_at_call 100; refine (done_any B R c p A l w H.out).mono ?_; rintro e w2 ⟨rfl, rfl⟩)
        | (go_at_call 102; refine (next_ok B R c p A l 1 (by omega) w H.out hk1).mono ?_; rintro e w2 ⟨⟨A', c', rfl, hr, hn⟩, hkp, hR⟩; have hr' : Reads w2 w2.heap.size 1 A' 1 (bcells [l[p]]) := by rw [← HT.out]; exact hr
           obtain ⟨ad, rfl, hcell⟩ := slice_one hr'; have HKP := Lib.hid hkp; have HR := Lib.hid hR; clear hr hr' hn hkp hR))
      go_ret
      exact Rend.yes HG.out (by show _ = _; rw [← HQ.out]; rfl) HKP.out HR.out
  · have hg : gBool l p = .inr (20, p) := by
      simp [gBool, gNum, Rg.map, gNext, hk]
    have HG := Lib.hid hg
    have hk1 : (l.length : Int) < (p : Int) + 1 := by omega
    clear h hg
    go_enter Tryz.func156, Tryz.ntmps156
    go_wp2_with (first
      | (go_at_call 100; refine (done_any B R c p A l w H.out).mono ?_; rintro e w2 ⟨rfl, rfl⟩)
      | (go_at_call 102; refine (next_no B R c p A l 1 w H.out hk1).mono ?_; rintro e w2 ⟨rfl, hkp, hR⟩; have HKP := Lib.hid hkp; have HR := Lib.hid hR; clear hkp hR))
    exact ⟨rfl, Rend.no HG.out HKP.out HR.out⟩
end Go.Proofs.YtnbaajplelchjaaGreatDoor
/- The reader: Int, Long, sizes. -/
namespace Go.Proofs.YtnbaajplelchjaaGreatDoor
open Go.RowKit

theorem gNum_yes {k p : Nat} {l : List UInt8} (h : p + k ≤ l.length) : gNum k l p = .inl (beNum ((l.drop p).take k), p + k) := by
  simp [gNum, Rg.map, gNext, h]
theorem gNum_no {k p : Nat} {l : List UInt8} (h : ¬ p + k ≤ l.length) : gNum k l p = .inr (20, p) := by
  simp [gNum, Rg.map, gNext, h]
theorem beNum_bd {k p : Nat} {l : List UInt8} (h : p + k ≤ l.length) : beNum ((l.drop p).take k) < 256 ^ k := by
  have := beNum_lt ((l.drop p).take k)
  rwa [List.length_take, List.length_drop, Nat.min_eq_left (by omega)] at this

set_option maxRecDepth 100000 in
set_option maxHeartbeats 400000 in
theorem rInt_any (B : Nat → Prop) (R c p : Nat) (A : Option Addr) (l : List UInt8) (w : World) (h : Rdr w B R A c l p) :
    Calls Tryz.prog 49 #[.pointer (some ⟨R, 0, none⟩)] w fun e w' => Rend B R c A l vInt32 (gInt l p) w e w' := by
  have H := Lib.hid h
  by_cases hk : p + 4 ≤ l.length
  · have hg : gInt l p = .inl (wrap32 (beNum ((l.drop p).take 4)), p + 4) := by simp [gInt, Rg.map, gNum_yes hk]
    have HG := Lib.hid hg
    have hk1 : (p : Int) + 4 ≤ l.length := by omega
    have hb := beNum_bd hk
    rw [show (256 : Nat) ^ 4 = 4294967296 by decide] at hb
    clear h hg
    go_enter Tryz.func49, Tryz.ntmps49
    go_wp2_with (first
      | (go_at_call 100; refine (done_any B R c p A l w H.out).mono ?_; rintro e w2 ⟨rfl, rfl⟩)
      | (go_at_call 102; refine (next_ok B R c p A l 4 (by omega) w H.out hk1).mono ?_; rintro e w2 ⟨⟨A', c', rfl, hr, hn⟩, hkp, hR⟩; have HRD := Lib.hid hr; have HKP := Lib.hid hkp; have HR := Lib.hid hR; clear hr hn hkp hR)
      | (go_at_call 101; refine (rnumber_any A' _ c' w2.heap.size _ w2 HRD.out (by decide)).mono ?_; rintro e w3 ⟨rfl, rfl⟩))
    go_ret
    exact Rend.yes HG.out rfl HKP.out HR.out
  · have hg : gInt l p = .inr (20, p) := by simp [gInt, Rg.map, gNum_no hk]
    have HG := Lib.hid hg
    have hk1 : (l.length : Int) < (p : Int) + 4 := by omega
    clear h hg
    go_enter Tryz.func49, Tryz.ntmps49
    go_wp2_with (first
      | (go_at_call 100; refine (done_any B R c p A l w H.out).mono ?_; rintro e w2 ⟨rfl, rfl⟩)
      | (go_at_call 102; refine (next_no B R c p A l 4 w H.out hk1).mono ?_; rintro e w2 ⟨rfl, hkp, hR⟩; have HKP := Lib.hid hkp; have HR := Lib.hid hR; clear hkp hR))
    exact ⟨rfl, Rend.no HG.out HKP.out HR.out⟩

set_option maxRecDepth 100000 in
set_option maxHeartbeats 400000 in
theorem rLong_any (B : Nat → Prop) (R c p : Nat) (A : Option Addr) (l : List UInt8) (w : World) (h : Rdr w B R A c l p) :
    Calls Tryz.prog 50 #[.pointer (some ⟨R, 0, none⟩)] w fun e w' => Rend B R c A l vInt64 (gLong l p) w e w' := by
  have H := Lib.hid h
  by_cases hk : p + 8 ≤ l.length
  · have hg : gLong l p = .inl (wrap64 (beNum ((l.drop p).take 8)), p + 8) := by simp [gLong, Rg.map, gNum_yes hk]
    have HG := Lib.hid hg
    have hk1 : (p : Int) + 8 ≤ l.length := by omega
    clear h hg
    go_enter Tryz.func50, Tryz.ntmps50
    go_wp2_with (first
      | (go_at_call 100; refine (done_any B R c p A l w H.out).mono ?_; rintro e w2 ⟨rfl, rfl⟩)
      | (go_at_call 102; refine (next_ok B R c p A l 8 (by omega) w H.out hk1).mono ?_; rintro e w2 ⟨⟨A', c', rfl, hr, hn⟩, hkp, hR⟩; have HRD := Lib.hid hr; have HKP := Lib.hid hkp; have HR := Lib.hid hR; clear hr hn hkp hR)
      | (go_at_call 101; refine (rnumber_any A' _ c' w2.heap.size _ w2 HRD.out (by decide)).mono ?_; rintro e w3 ⟨rfl, rfl⟩))
    go_ret
    exact Rend.yes HG.out rfl HKP.out HR.out
  · have hg : gLong l p = .inr (20, p) := by simp [gLong, Rg.map, gNum_no hk]
    have HG := Lib.hid hg
    have hk1 : (l.length : Int) < (p : Int) + 8 := by omega
    clear h hg
    go_enter Tryz.func50, Tryz.ntmps50
    go_wp2_with (first
      | (go_at_call 100; refine (done_any B R c p A l w H.out).mono ?_; rintro e w2 ⟨rfl, rfl⟩)
      | (go_at_call 102; refine (next_no B R c p A l 8 w H.out hk1).mono ?_; rintro e w2 ⟨rfl, hkp, hR⟩; have HKP := Lib.hid hkp; have HR := Lib.hid hR; clear hkp hR))
    exact ⟨rfl, Rend.no HG.out HKP.out HR.out⟩
end Go.Proofs.YtnbaajplelchjaaGreatDoor
/- The reader: sizes, buffers. -/
namespace Go.Proofs.YtnbaajplelchjaaGreatDoor
open Go.RowKit

set_option maxRecDepth 100000 in
set_option maxHeartbeats 400000 in
theorem rSize_any (B : Nat → Prop) (R c p : Nat) (A : Option Addr) (l : List UInt8) (most : Int) (w : World) (h : Rdr w B R A c l p) :
    Calls Tryz.prog 159 #[.pointer (some ⟨R, 0, none⟩), .int .i64 most] w fun e w' => Rend B R c A l vNat (gSize most l p) w e w' := by
  have HI := rInt_any B R c p A l w h
  have hp := h.here
  rcases hres : gInt l p with ⟨n, q⟩ | ⟨er, q⟩
  · rw [hres] at HI
    obtain ⟨hq1, hn, rfl⟩ := gInt_inl hres
    have hbd := wrap32_bd (beNum ((l.drop p).take 4))
    rw [← hn] at hbd
    obtain ⟨hbd1, hbd2⟩ := hbd
    have HI := Lib.hid HI
    by_cases hc : n < 0 ∨ most < n
    · have hg : gSize most l p = .inr (22, p) := by unfold gSize; rw [hres]; exact if_pos hc
      have HG := Lib.hid hg
      clear h hg hn hres
      by_cases hc0 : n < 0
      all_goals (
        try (have hc1 : most < n := by omega)
        clear hc
        go_enter Tryz.func159, Tryz.ntmps159
        go_wp2_with (first
          | (go_at_call 49; refine (HI.out).mono ?_; rintro e w2 ⟨⟨v, rfl, rfl⟩, hkp, hR⟩; have HKP := Lib.hid hkp; have HR := Lib.hid hR; clear hkp hR)
          | (go_at_call 122; refine (back_any B R c _ A l 4 22 (by omega) (by simp; omega) rfl _ HR.out).mono ?_; rintro e w3 ⟨rfl, hk3, hR3⟩; have HK3 := Lib.hid hk3; have HR3 := Lib.hid hR3; clear hk3 hR3))
        exact ⟨rfl, Rend.no HG.out (HKP.out.trans HK3.out) HR3.out⟩)
    · have hg : gSize most l p = .inl (n.toNat, p + 4) := by unfold gSize; rw [hres]; exact if_neg hc
      have HG := Lib.hid hg
      have hc0 : ¬ n < 0 := by omega
      have hc1 : ¬ most < n := by omega
      clear h hg hn hres hc
      go_enter Tryz.func159, Tryz.ntmps159
      go_wp2_with (go_at_call 49; refine (HI.out).mono ?_; rintro e w2 ⟨⟨v, rfl, rfl⟩, hkp, hR⟩; have HKP := Lib.hid hkp; have HR := Lib.hid hR; clear hkp hR)
      go_ret
      exact Rend.yes HG.out (show Value.int .i64 n = .int .i64 (n.toNat : Int) by rw [Int.toNat_of_nonneg (by omega)]) HKP.out HR.out
  · rw [hres] at HI
    have HI := Lib.hid HI
    have hg : gSize most l p = .inr (er, q) := by unfold gSize; rw [hres]
    have HG := Lib.hid hg
    clear h hg hres
    go_enter Tryz.func159, Tryz.ntmps159
    go_wp2_with (go_at_call 49; refine (HI.out).mono ?_; rintro e w2 ⟨rfl, hkp, hR⟩; have HKP := Lib.hid hkp; have HR := Lib.hid hR; clear hkp hR)
    exact ⟨rfl, Rend.no HG.out HKP.out HR.out⟩


/-- bytes as they lie in memory -/
def vSlice (x : List UInt8) (v : Value) (w : World) : Prop := ∃ A' c', v = .slice A' x.length c' ∧ Reads w w.heap.size 1 A' x.length (bcells x) ∧ (A' = none → x.length = 0 ∧ c' = 0) ∧ x.length ≤ c'
/-- bytes in memory of the call's own -/
def vOwn (base : Nat) (x : List UInt8) (v : Value) (w : World) : Prop := ∃ A' c', v = .slice A' x.length c' ∧ w.ownsRow base 5 1 v x.length (bcells x)

set_option maxRecDepth 100000 in
set_option maxHeartbeats 400000 in
theorem rBytes_any (B : Nat → Prop) (R c p : Nat) (A : Option Addr) (l : List UInt8) (most : Int) (w : World) (h : Rdr w B R A c l p) :
    Calls Tryz.prog 120 #[.pointer (some ⟨R, 0, none⟩), .int .i64 most] w fun e w' => Rend B R c A l vSlice (gBuf most l p) w e w' := by
  have HI := rSize_any B R c p A l most w h
  rcases hres : gSize most l p with ⟨n, q⟩ | ⟨er, q⟩
  · rw [hres] at HI
    obtain ⟨hq1, rfl, _, hbd, _⟩ := gSize_inl hres
    have HI := Lib.hid HI
    have hlen := h.len
    by_cases hc : p + 4 + n ≤ l.length
    · have hg : gBuf most l p = .inl ((l.drop (p + 4)).take n, p + 4 + n) := by unfold gBuf; rw [hres]; exact if_pos hc
      have HG := Lib.hid hg
      have hc1 : ¬ (l.length : Int) - (p + 4) < n := by omega
      have hc2 : ((p + 4 : Nat) : Int) + (n : Int) ≤ l.length := by omega
      have HT : Hid (((l.drop (p + 4)).take n).length = n) := by show _ = _; rw [List.length_take, List.length_drop]; omega
      clear h hg hres
      go_enter Tryz.func120, Tryz.ntmps120
      go_wp2_with (first
        | (go_at_call 159; refine (HI.out).mono ?_; rintro e w2 ⟨⟨v, rfl, rfl⟩, hkp, hR⟩; have HL : Hid (((l.length - (p + 4) : Nat) : Int) = (l.length : Int) - (p + 4)) := (by show _ = _; have := hR.here; omega); have HKP := Lib.hid hkp; have HR := Lib.hid hR; clear hkp hR)
        | (go_at_call 150; refine (left_any B R c _ A l _ HR.out).mono ?_; rintro e w3 ⟨rfl, n0, rfl⟩; have HR0 := Lib.hid (HR.out.later (below_drewN' (Below.refl _ _) n0)); rw [HL.out])
        | (go_at_call 102; refine (next_ok B R c _ A l _ (by omega) _ HR0.out hc2).mono ?_; rintro e w4 ⟨⟨A', c', rfl, hr, hn⟩, hk4, hR4⟩; have HRD := Lib.hid hr; have HN := Lib.hid hn; have HK4 := Lib.hid hk4; have HR4 := Lib.hid hR4; clear hr hn hk4 hR4))
      go_ret
      exact Rend.yes HG.out ⟨A', c', by rw [HT.out]; rfl, by rw [HT.out]; exact HRD.out, by rw [HT.out]; exact HN.out⟩ ((HKP.out.trans (Kp.drewN n0)).trans HK4.out) HR4.out
    · have hg : gBuf most l p = .inr (20, p) := by unfold gBuf; rw [hres]; exact if_neg hc
      have HG := Lib.hid hg
      have hc1 : (l.length : Int) - (p + 4) < n := by omega
      clear h hg hres
      go_enter Tryz.func120, Tryz.ntmps120
      go_wp2_with (first
        | (go_at_call 159; refine (HI.out).mono ?_; rintro e w2 ⟨⟨v, rfl, rfl⟩, hkp, hR⟩; have HL : Hid (((l.length - (p + 4) : Nat) : Int) = (l.length : Int) - (p + 4)) := (by show _ = _; have := hR.here; omega); have HKP := Lib.hid hkp; have HR := Lib.hid hR; clear hkp hR)
        | (go_at_call 150; refine (left_any B R c _ A l _ HR.out).mono ?_; rintro e w3 ⟨rfl, n0, rfl⟩; have HR0 := Lib.hid (HR.out.later (below_drewN' (Below.refl _ _) n0)); rw [HL.out])
        | (go_at_call 122; refine (back_any B R c _ A l 4 20 (by omega) (by simp; omega) rfl _ HR0.out).mono ?_; rintro e w4 ⟨rfl, hk3, hR3⟩; have HK3 := Lib.hid hk3; have HR3 := Lib.hid hR3; clear hk3 hR3))
      exact ⟨rfl, Rend.no HG.out ((HKP.out.trans (Kp.drewN n0)).trans HK3.out) HR3.out⟩
  · rw [hres] at HI
    have HI := Lib.hid HI
    have hg : gBuf most l p = .inr (er, q) := by unfold gBuf; rw [hres]
    have HG := Lib.hid hg
    clear h hg hres
    go_enter Tryz.func120, Tryz.ntmps120
    go_wp2_with (go_at_call 159; refine (HI.out).mono ?_; rintro e w2 ⟨rfl, hkp, hR⟩; have HKP := Lib.hid hkp; have HR := Lib.hid hR; clear hkp hR)
    exact ⟨rfl, Rend.no HG.out HKP.out HR.out⟩


theorem gBuf_len {most : Int} {l x : List UInt8} {p q : Nat} (h : gBuf most l p = .inl (x, q)) (hl : l.length ≤ 140737488355328) : x.length ≤ 140737488355328 := by
  unfold gBuf at h
  split at h
  · split at h
    · simp only [Sum.inl.injEq, Prod.mk.injEq] at h
      obtain ⟨rfl, _⟩ := h
      rw [List.length_take, List.length_drop]
      omega
    · cases h
  · cases h

theorem own_base {w : World} {base base' : Nat} {e : TypeId} {size n : Nat} {v : Value} {xs : List Value} (h : w.ownsRow base e size v n xs) (hb : base' ≤ base) : w.ownsRow base' e size v n xs := by
  refine ⟨h.1, ?_⟩
  rcases h.2 with h2 | ⟨g, cap, cur, h1, h3, h4⟩
  · exact .inl h2
  · exact .inr ⟨g, cap, cur, h1, Nat.le_trans hb h3, h4⟩

set_option maxRecDepth 100000 in
set_option maxHeartbeats 400000 in
theorem rBuffer_any (B : Nat → Prop) (R c p : Nat) (A : Option Addr) (l : List UInt8) (most : Int) (w : World) (h : Rdr w B R A c l p) :
    Calls Tryz.prog 104 #[.pointer (some ⟨R, 0, none⟩), .int .i64 most] w fun e w' => Rend B R c A l (vOwn w.heap.size) (gBuf most l p) w e w' := by
  have HI := rBytes_any B R c p A l most w h
  have H := Lib.hid h
  rcases hres : gBuf most l p with ⟨x, q⟩ | ⟨er, q⟩
  · rw [hres] at HI
    have HI := Lib.hid HI
    have HX := Lib.hid (gBuf_len hres h.len)
    clear h hres
    go_enter Tryz.func104, Tryz.ntmps104
    go_wp2_with (first
      | (go_at_call 100; refine (done_any B R c p A l w H.out).mono ?_; rintro e w1 ⟨rfl, rfl⟩)
      | (go_at_call 120; refine (HI.out).mono ?_; rintro e w2 ⟨⟨v, rfl, A', c', rfl, hr, hn⟩, hkp, hR⟩; have HRD := Lib.hid hr; have HN := Lib.hid hn; have HKP := Lib.hid hkp; have HR := Lib.hid hR; clear hkp hR)
      | (go_at_call 83; have hx : x.length ≤ 140737488355328 := (by
           have h1 := HRD.out.1
           rw [bcells_length] at h1
           have h2 := HX.out
           omega)
         refine (clone_any A' _ c' w2.heap.size (bcells x) w2 HRD.out (bcells_one _) (Nat.le_refl _) hx HN.out.1).mono ?_; rintro e w3 ⟨A2, c2, rfl, ho, hb⟩; have HO := Lib.hid ho; have HB3 := Lib.hid hb; clear ho hb))
    go_ret
    exact Rend.yes rfl ⟨A2, c2, rfl, own_base HO.out HKP.out.size⟩ (HKP.out.to (Kp.of_below (X := []) HB3.out) (fun _ h _ => h) (fun _ h => by cases h)) (HR.out.later HB3.out)
  · rw [hres] at HI
    have HI := Lib.hid HI
    clear h hres
    go_enter Tryz.func104, Tryz.ntmps104
    go_wp2_with (first
      | (go_at_call 100; refine (done_any B R c p A l w H.out).mono ?_; rintro e w1 ⟨rfl, rfl⟩)
      | (go_at_call 120; refine (HI.out).mono ?_; rintro e w2 ⟨rfl, hkp, hR⟩; have HKP := Lib.hid hkp; have HR := Lib.hid hR; clear hkp hR))
    exact ⟨rfl, Rend.no rfl HKP.out HR.out⟩

set_option maxRecDepth 100000 in
set_option maxHeartbeats 400000 in
theorem rCount_any (B : Nat → Prop) (R c p : Nat) (A : Option Addr) (l : List UInt8) (most least : Int) (w : World) (h : Rdr w B R A c l p) :
    Calls Tryz.prog 154 #[.pointer (some ⟨R, 0, none⟩), .int .i64 most, .int .i64 least] w fun e w' => Rend B R c A l vNat (gCount most least l p) w e w' := by
  have HI := rSize_any B R c p A l most w h
  have H := Lib.hid h
  rcases hres : gSize most l p with ⟨n, q⟩ | ⟨er, q⟩
  · rw [hres] at HI
    obtain ⟨hq1, rfl, _, hbd, _⟩ := gSize_inl hres
    have HI := Lib.hid HI
    have hlen := h.len
    by_cases h1 : 1 ≤ least
    · by_cases hc : ((l.length - (p + 4) : Nat) : Int) / least < n
      · have hg : gCount most least l p = .inr (20, p) := by unfold gCount; rw [hres]; exact if_pos ⟨h1, hc⟩
        have HG := Lib.hid hg
        have e1 : ((l.length - (p + 4) : Nat) : Int) = (l.length : Int) - (p + 4) := by omega
        rw [e1] at hc
        clear h hg hres e1
        go_enter Tryz.func154, Tryz.ntmps154
        go_wp2_with (first
          | (go_at_call 100; refine (done_any B R c p A l w H.out).mono ?_; rintro e w1 ⟨rfl, rfl⟩)
          | (go_at_call 159; refine (HI.out).mono ?_; rintro e w2 ⟨⟨v, rfl, rfl⟩, hkp, hR⟩; have HL : Hid (((l.length - (p + 4) : Nat) : Int) = (l.length : Int) - (p + 4)) := (by show _ = _; have := hR.here; omega); have HKP := Lib.hid hkp; have HR := Lib.hid hR; clear hkp hR)
          | (go_at_call 150; refine (left_any B R c _ A l _ HR.out).mono ?_; rintro e w3 ⟨rfl, n0, rfl⟩; have HR0 := Lib.hid (HR.out.later (below_drewN' (Below.refl _ _) n0)); rw [HL.out])
          | (go_at_call 122; refine (back_any B R c _ A l 4 20 (by omega) (by simp; omega) rfl _ HR0.out).mono ?_; rintro e w4 ⟨rfl, hk3, hR3⟩; have HK3 := Lib.hid hk3; have HR3 := Lib.hid hR3; clear hk3 hR3))
        exact ⟨rfl, Rend.no HG.out ((HKP.out.trans (Kp.drewN n0)).trans HK3.out) HR3.out⟩
      · have hg : gCount most least l p = .inl (n, p + 4) := by unfold gCount; rw [hres]; exact if_neg (fun h => hc h.2)
        have HG := Lib.hid hg
        have e1 : ((l.length - (p + 4) : Nat) : Int) = (l.length : Int) - (p + 4) := by omega
        rw [e1] at hc
        clear h hg hres e1
        go_enter Tryz.func154, Tryz.ntmps154
        go_wp2_with (first
          | (go_at_call 100; refine (done_any B R c p A l w H.out).mono ?_; rintro e w1 ⟨rfl, rfl⟩)
          | (go_at_call 159; refine (HI.out).mono ?_; rintro e w2 ⟨⟨v, rfl, rfl⟩, hkp, hR⟩; have HL : Hid (((l.length - (p + 4) : Nat) : Int) = (l.length : Int) - (p + 4)) := (by show _ = _; have := hR.here; omega); have HKP := Lib.hid hkp; have HR := Lib.hid hR; clear hkp hR)
          | (go_at_call 150; refine (left_any B R c _ A l _ HR.out).mono ?_; rintro e w3 ⟨rfl, n0, rfl⟩; have HR0 := Lib.hid (HR.out.later (below_drewN' (Below.refl _ _) n0)); rw [HL.out]))
        go_ret
        exact Rend.yes HG.out rfl (HKP.out.trans (Kp.drewN n0)) HR0.out
    · have hg : gCount most least l p = .inl (n, p + 4) := by unfold gCount; rw [hres]; exact if_neg (fun h => h1 h.1)
      have HG := Lib.hid hg
      clear h hg hres
      go_enter Tryz.func154, Tryz.ntmps154
      go_wp2_with (first
        | (go_at_call 100; refine (done_any B R c p A l w H.out).mono ?_; rintro e w1 ⟨rfl, rfl⟩)
        | (go_at_call 159; refine (HI.out).mono ?_; rintro e w2 ⟨⟨v, rfl, rfl⟩, hkp, hR⟩; have HL : Hid (((l.length - (p + 4) : Nat) : Int) = (l.length : Int) - (p + 4)) := (by show _ = _; have := hR.here; omega); have HKP := Lib.hid hkp; have HR := Lib.hid hR; clear hkp hR))
      go_ret
      exact Rend.yes HG.out rfl HKP.out HR.out
  · rw [hres] at HI
    have HI := Lib.hid HI
    have hg : gCount most least l p = .inr (er, q) := by unfold gCount; rw [hres]
    have HG := Lib.hid hg
    clear h hg hres
    go_enter Tryz.func154, Tryz.ntmps154
    go_wp2_with (first
      | (go_at_call 100; refine (done_any B R c p A l w H.out).mono ?_; rintro e w1 ⟨rfl, rfl⟩)
      | (go_at_call 159; refine (HI.out).mono ?_; rintro e w2 ⟨rfl, hkp, hR⟩; have HKP := Lib.hid hkp; have HR := Lib.hid hR; clear hkp hR))
    exact ⟨rfl, Rend.no HG.out HKP.out HR.out⟩

end Go.Proofs.YtnbaajplelchjaaGreatDoor
