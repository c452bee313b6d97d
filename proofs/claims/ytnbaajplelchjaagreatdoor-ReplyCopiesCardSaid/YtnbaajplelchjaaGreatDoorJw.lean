/- What is kept of memory: all that lay there, but for the blocks that are named. -/
import Derived.Test.YtnbaajplelchjaaGreatDoorBase
set_option linter.unusedVariables false
set_option linter.unusedSimpArgs false
namespace Go.Proofs.YtnbaajplelchjaaGreatDoor
open Go.RowKit

/-- from w to w' nothing that lay in w has turned, but for the blocks in X -/
structure Kp (X : List Nat) (w w' : World) : Prop where
  os : w'.os = w.os
  tape : w'.tape = w.tape
  output : w'.output = w.output
  size : w.heap.size ≤ w'.heap.size
  block : ∀ k, k < w.heap.size → k ∉ X → w'.heap[k]? = w.heap[k]?

section
variable {X Y Z : List Nat} {w w' w1 w2 : World}
theorem Kp.refl (X : List Nat) (w : World) : Kp X w w := ⟨rfl, rfl, rfl, Nat.le_refl _, fun _ _ _ => rfl⟩
theorem Kp.to (h1 : Kp X w w1) (h2 : Kp Y w1 w2) (hX : ∀ x ∈ X, x < w.heap.size → x ∈ Z) (hY : ∀ y ∈ Y, y < w.heap.size → y ∈ Z) : Kp Z w w2 :=
  ⟨h2.os.trans h1.os, h2.tape.trans h1.tape, h2.output.trans h1.output, Nat.le_trans h1.size h2.size, fun k hk hn =>
    (h2.block k (Nat.lt_of_lt_of_le hk h1.size) (fun hy => hn (hY k hy hk))).trans (h1.block k hk (fun hx => hn (hX k hx hk)))⟩
theorem Kp.trans (h1 : Kp X w w1) (h2 : Kp X w1 w2) : Kp X w w2 := h1.to h2 (fun _ h _ => h) (fun _ h _ => h)
theorem Kp.mono (h : Kp X w w1) (hX : ∀ x ∈ X, x < w.heap.size → x ∈ Z) : Kp Z w w1 := h.to (Kp.refl [] _) hX (fun _ h => by cases h)
theorem Kp.of_below (h : Below w.heap.size w w') : Kp X w w' := ⟨h.os, h.tape, h.output, h.size, fun k hk _ => h.block k hk⟩
theorem Kp.below (h : Kp X w w') {B : Nat} (hB : ∀ x ∈ X, B ≤ x) (hw : B ≤ w.heap.size) : Below B w w' := ⟨h.os, h.tape, h.output, h.size, fun k hk => h.block k (by omega) (fun hx => by have := hB k hx; omega)⟩
theorem Kp.below' (h : Kp [] w w') : Below w.heap.size w w' := h.below (fun _ h => by cases h) (Nat.le_refl _)
theorem Kp.of_grown {row : Option Nat} (h : w.grownBy w' row) : Kp row.toList w w' := ⟨h.os, h.tape, h.output, h.size, fun k hk hn => h.block k hk (fun e => hn (by rw [← e]; simp))⟩
theorem Kp.drew : Kp X w w.drew := ⟨rfl, rfl, rfl, Nat.le_refl _, fun _ _ _ => rfl⟩
theorem Kp.drewN (n : Nat) : Kp X w (w.drewN n) := ⟨rfl, rfl, rfl, Nat.le_refl _, fun _ _ _ => rfl⟩
theorem Kp.alloc (o : Obj) : Kp X w (w.alloc o) := .of_below ((Below.refl _ _).alloc (Nat.le_refl _) _)
theorem Kp.setCell (p : Addr) (u : Value) : Kp [p.block] w (w.setCell p u) := ⟨rfl, rfl, rfl, by simp [World.setCell], fun k _ hn => Below.heap_setCell w p u k (fun e => hn (by simp [e]))⟩
theorem Kp.setRow (g : Nat) (cs : Array Value) : Kp [g] w (w.setRow g cs) := ⟨rfl, rfl, rfl, by simp [World.setRow], fun k _ hn => setRow_other w g k cs (fun e => hn (by simp [e]))⟩
theorem Kp.cell (h : Kp X w w') {p : Addr} (hl : p.block < w.heap.size) (hp : p.block ∉ X) : w'.cell? p = w.cell? p := World.cell?_of_block (h.block _ hl hp)
theorem Kp.froz (h : Kp X w w') {p : Addr} (hl : p.block < w.heap.size) (hp : p.block ∉ X) : w'.frozen? p = w.frozen? p := World.frozen?_of_block (h.block _ hl hp)
theorem Blk.kp {g : Nat} {t : TypeId} {cs : Array Value} (h : Blk w g t cs) (hk : Kp X w w') (hg : g ∉ X) : Blk w' g t cs := (hk.block g h.lt hg).trans h
theorem Reads.kp {B size n : Nat} {A : Option Addr} {xs : List Value} (h : Reads w B size A n xs) (hk : Kp X w w') (hB : B ≤ w.heap.size) (hX : ∀ x ∈ X, B ≤ x) : Reads w' B size A n xs := h.below (hk.below hX hB)
theorem Reads.kp' {B size n : Nat} {A : Option Addr} {xs : List Value} (h : Reads w B size A n xs) (hk : Kp X w w') (hB : B ≤ w.heap.size) (hX : ∀ ad, A = some ad → ad.block ∉ X) : Reads w' B size A n xs :=
  ⟨h.1, fun hn => by
    obtain ⟨ad, e, hb, hc⟩ := h.2 hn
    refine ⟨ad, e, hb, fun j u hu => ?_⟩
    rw [hk.cell (by rw [block_of_add]; omega) (by rw [block_of_add]; exact hX ad e)]
    exact hc j u hu⟩
theorem own_kp {base size n : Nat} {e : TypeId} {v : Value} {xs : List Value} (h : w.ownsRow base e size v n xs) (hk : Kp X w w') (hX : ∀ x ∈ X, v.ownBlock ≠ some x) : w'.ownsRow base e size v n xs := by
  refine ⟨h.1, ?_⟩
  rcases h.2 with hn | ⟨g, cap, cur, rfl, hb, hgg, rest⟩
  · exact .inl hn
  · refine .inr ⟨g, cap, cur, rfl, hb, ?_, rest⟩
    rw [hk.block g (Array.getElem?_eq_some_iff.1 hgg).1 (fun hx => hX g hx rfl)]
    exact hgg
end

/-- rows of two element types lie in two blocks -/
theorem own_own_ne {w : World} {b1 b2 : Nat} {e1 e2 : TypeId} {s1 s2 n1 n2 : Nat} {v1 v2 : Value} {x1 x2 : List Value} (h1 : w.ownsRow b1 e1 s1 v1 n1 x1) (h2 : w.ownsRow b2 e2 s2 v2 n2 x2) (hne : e1 ≠ e2) : ∀ x, v1.ownBlock = some x → v2.ownBlock = some x → False := by
  intro x hx1 hx2
  rcases h1.2 with ⟨rfl, _⟩ | ⟨g, cap, cur, rfl, _, hh, _⟩
  · simp [Value.ownBlock] at hx1
  · have : g = x := by simpa [Value.ownBlock] using hx1
    subst this
    exact own_blk_ne h2 hh hne.symm hx2
theorem bsize_eq (s : ByteArray) : s.size = s.data.toList.length := by cases s; simp [ByteArray.size]
/-- the bytes of a number, the highest first -/
def beBytes : Nat → Nat → List UInt8
  | _, 0 => []
  | n, k + 1 => UInt8.ofNat (n / 256 ^ k) :: beBytes n k
theorem beBytes_length (n k : Nat) : (beBytes n k).length = k := by
  induction k with
  | zero => rfl
  | succ k ih => simp [beBytes, ih]
/-- a number of bytes, the highest first -/
def beNum (l : List UInt8) : Nat := l.foldl (fun n b => n * 256 + b.toNat) 0
theorem beNum_snoc (l : List UInt8) (b : UInt8) : beNum (l ++ [b]) = beNum l * 256 + b.toNat := by simp [beNum]
theorem beNum_lt (l : List UInt8) : beNum l < 256 ^ l.length := by
  suffices h : ∀ (l : List UInt8) (n m : Nat), n < m → l.foldl (fun n b => n * 256 + b.toNat) n < m * 256 ^ l.length by
    have := h l 0 1 (by omega)
    simpa [beNum] using this
  intro l
  induction l with
  | nil => intro n m h; simpa using h
  | cons b l ih =>
    intro n m h
    have hb : b.toNat < 256 := b.toNat_lt
    have := ih (n * 256 + b.toNat) (m * 256) (by omega)
    simp only [List.foldl_cons, List.length_cons]
    calc _ < m * 256 * 256 ^ l.length := this
      _ = m * 256 ^ (l.length + 1) := by rw [Nat.pow_succ, Nat.mul_assoc, Nat.mul_comm 256]
end Go.Proofs.YtnbaajplelchjaaGreatDoor
/- The writer: put, numbers, buffers, texts: what lies behind each call. -/
namespace Go.Proofs.YtnbaajplelchjaaGreatDoor
open Go.RowKit

theorem u8_info : (Tryz.prog.info? 5).map (fun i => (i.zero, i.size, i.bytes)) = some (some (.int .u8 0), 1, 1) := by kernel_rfl

/-- a writer at block g: it holds the slice v, which is its own row of the bytes l -/
def Wr (w : World) (base g : Nat) (v : Value) (l : List UInt8) : Prop := Blk w g 73 #[v] ∧ w.ownsRow base 5 1 v l.length (bcells l)

/-- behind a writing of k: the slice v has become v' -/
def Wrote (base g : Nat) (v v' : Value) (l k : List UInt8) (w w' : World) : Prop :=
  Wr w' base g v' (l ++ k) ∧ Kp (g :: v.ownBlock.toList) w w' ∧ (v'.ownBlock = v.ownBlock ∨ ∃ x, v'.ownBlock = some x ∧ w.heap.size ≤ x)

section
variable {w w1 w2 w' : World} {base g : Nat} {v v1 v2 : Value} {l k m : List UInt8}
theorem Wr.lt (h : Wr w base g v l) : g < w.heap.size := h.1.lt
theorem Wr.kp {X : List Nat} (h : Wr w base g v l) (hk : Kp X w w') (hg : g ∉ X) (hX : ∀ x ∈ X, v.ownBlock ≠ some x) : Wr w' base g v l := ⟨h.1.kp hk hg, own_kp h.2 hk hX⟩
theorem Wr.later (h : Wr w base g v l) (hb : Below w.heap.size w w') : Wr w' base g v l := ⟨h.1.below hb h.1.lt, own_kp h.2 (Kp.of_below (X := []) hb) (fun _ h => by cases h)⟩
theorem Wrote.start (h : Wr w base g v l) : Wrote base g v v l [] w w := ⟨by simpa using h, Kp.refl _ _, .inl rfl⟩
theorem Wrote.later (h : Wrote base g v v1 l k w w1) (hb : Below w1.heap.size w1 w') : Wrote base g v v1 l k w w' :=
  ⟨h.1.later hb, h.2.1.to (Kp.of_below (X := []) hb) (fun _ hx _ => hx) (fun _ h => by cases h), h.2.2⟩
theorem Wrote.size (h : Wrote base g v v1 l k w w') : w.heap.size ≤ w'.heap.size := h.2.1.size
theorem Wrote.cat (h : Wrote base g v v1 l k w w1) (hb : Below w1.heap.size w1 w2) (h2 : Wrote base g v1 v2 (l ++ k) m w2 w') : Wrote base g v v2 l (k ++ m) w w' := by
  obtain ⟨hw1, hk1, ho1⟩ := h.later hb
  obtain ⟨hw2, hk2, ho2⟩ := h2
  refine ⟨by rw [← List.append_assoc]; exact hw2, hk1.to hk2 (fun x hx _ => hx) (fun y hy hl => ?_), ?_⟩
  · rcases List.mem_cons.1 hy with rfl | hy
    · simp
    · rcases ho1 with e | ⟨x, e, hx⟩
      · rw [e] at hy; exact List.mem_cons_of_mem _ hy
      · rw [e] at hy; simp at hy; omega
  · rcases ho2 with e | ⟨x, e, hx⟩
    · rcases ho1 with e1 | ⟨y, e1, hy⟩
      · exact .inl (e.trans e1)
      · exact .inr ⟨y, e.trans e1, hy⟩
    · exact .inr ⟨x, e, Nat.le_trans hk1.size hx⟩
/-- blocks that were laid ahead of a writing are no part of what it says -/
theorem Wrote.from (h : Wrote base g v v1 l k w1 w') (hb : Below w.heap.size w w1) : Wrote base g v v1 l k w w' := by
  obtain ⟨h1, h2, h3⟩ := h
  refine ⟨h1, (Kp.of_below (X := []) hb).to h2 (fun _ h => by cases h) (fun y hy _ => hy), ?_⟩
  rcases h3 with e | ⟨x, e, hx⟩
  · exact .inl e
  · exact .inr ⟨x, e, Nat.le_trans hb.size hx⟩
theorem Wrote.below {B : Nat} (h : Wrote base g v v1 l k w w') (hg : B ≤ g) (hv : ∀ x, v.ownBlock = some x → B ≤ x) (hw : B ≤ w.heap.size) : Below B w w' :=
  h.2.1.below (fun x hx => by
    rcases List.mem_cons.1 hx with rfl | hx
    · exact hg
    · exact hv x (by simpa using hx)) hw
end

set_option maxRecDepth 100000 in
set_option maxHeartbeats 400000 in
theorem put_any (base g : Nat) (v : Value) (l k : List UInt8) (A : Option Addr) (m c B : Nat) (w : World) (h : Wr w base g v l) (hr : Reads w B 1 A m (bcells k)) (hbase : base ≤ w.heap.size) (hsz : l.length + k.length ≤ 140737488355328) :
    Calls Tryz.prog 136 #[.pointer (some ⟨g, 0, none⟩), .slice A m c] w fun e w' => e = .returned (.tuple #[]) ∧ ∃ v', Wrote base g v v' l k w w' := by
  obtain ⟨i0, hi0, hz0, hz1, hz2⟩ := info_parts u8_info
  have hm : k.length = m := by have := hr.1; rw [bcells_length] at this; omega
  subst hm
  have HR := Lib.hid hr
  obtain ⟨hb, ho⟩ := h
  have hc := hb.cell 0
  simp only [List.getElem?_toArray, List.getElem?_cons_zero] at hc
  have hf := hb.frozen 0
  have HB := Lib.hid hb
  have HO := Lib.hid ho
  clear hr hb ho
  go_enter Tryz.func136, Tryz.ntmps136
  go_wp2_with (at_builtin; refine wpList_append_any _ rfl (.tmp 10) (.tmp 11) _ rfl base 5 i0 _ 1 1 Tryz.underlying25 hi0 hz0 hz1 hz2 rfl (by decide) v l.length (bcells l) rfl HO.out B A k.length c (bcells k) rfl HR.out (bcells_one _) (by simp only [maxLen]; omega) (by omega) hbase ?_; intro v1 w1 hown1 hg1 hat1; obtain ⟨A1, c1, rfl⟩ := slice_form hown1; have hne : v.ownBlock ≠ some g := own_blk_ne HO.out HB.out (by decide); have hb1 : Blk w1 g 73 #[v] := HB.out.grown hg1 (fun e => hne e.symm); have hc1 := hb1.cell 0; have hf1 := hb1.frozen 0; simp only [List.getElem?_toArray, List.getElem?_cons_zero] at hc1; have HB1 := Lib.hid hb1; have HO1 := Lib.hid hown1; have HG1 := Lib.hid hg1; have HA1 := Lib.hid hat1; clear hb1 hown1 hg1 hat1 hc hf)
  go_end0
  refine ⟨rfl, .slice A1 (l.length + k.length) c1, ⟨?_, ?_⟩, ?_, ?_⟩
  · exact HB1.out.set_ 0 _
  · rw [bcells_append, List.length_append]
    exact own_set HO1.out HB1.out (by decide) 0 _
  · exact (Kp.of_grown HG1.out).to (Kp.setCell _ _) (fun x hx _ => List.mem_cons_of_mem _ hx) (fun y hy _ => by simp at hy; simp [hy])
  · rcases HA1.out with e | e
    · exact .inl e
    · exact .inr ⟨_, e, Nat.le_refl _⟩
end Go.Proofs.YtnbaajplelchjaaGreatDoor
/- The writer: numbers. -/
namespace Go.Proofs.YtnbaajplelchjaaGreatDoor
open Go.RowKit

theorem reads_lit (w : World) (t : TypeId) (xs : List Value) : Reads (w.alloc (.cells xs.toArray t)) (w.heap.size + 1) 1 (some ⟨w.heap.size, 0, none⟩) xs.length xs :=
  ⟨by simp, fun _ => ⟨_, rfl, Nat.lt_succ_self _, fun j u hu => by
    have h := (Blk.new w t xs.toArray).cell j
    rw [Go.WideShapes.add_plain, Nat.zero_add, h]
    simpa using hu⟩⟩

theorem byte_cell (n j : Nat) : bcells [UInt8.ofNat (n / 256 ^ j)] = [.int .u8 ((n : Int) / 2 ^ (8 * j) % 256)] := by
  have e : (UInt8.ofNat (n / 256 ^ j)).toNat = n / 2 ^ (8 * j) % 256 := by
    rw [UInt8.toNat_ofNat', show (256 : Nat) = 2 ^ 8 from rfl, ← Nat.pow_mul]
  simp only [bcells, List.map_cons, List.map_nil, e]
  congr 2

set_option maxRecDepth 100000 in
set_option maxHeartbeats 400000 in
theorem wnumber_any (base g : Nat) (v : Value) (l : List UInt8) (n k : Nat) (w : World) (h : Wr w base g v l) (hn : n < 18446744073709551616) (hk : k ≤ 8) (hbase : base ≤ w.heap.size) (hsz : l.length + 8 ≤ 140737488355328) :
    Calls Tryz.prog 75 #[.pointer (some ⟨g, 0, none⟩), .int .u64 n, .int .i64 k] w fun e w' => e = .returned (.tuple #[]) ∧ ∃ v', Wrote base g v v' l (beBytes n k) w w' := by
  have H0 := Lib.hid h
  clear h
  go_enter Tryz.func75, Tryz.ntmps75
  go_wp2
  go_loopw [6] (fun i wr => ∃ (j : Nat) (d : List UInt8) (v1 : Value), j ≤ k ∧ i = .int .i64 ((j : Int) - 1) ∧ Hid (d ++ beBytes n j = beBytes n k) ∧ Wrote base g v v1 l d w wr) (fun i _ => (intOf i + 1).toNat)
  case atStart => exact ⟨k, [], v, Nat.le_refl _, rfl, rfl, Wrote.start H0.out⟩
  case round =>
    obtain ⟨j, d, v1, hj, rfl, HD, hW⟩ := hrel
    by_cases hlt : 0 < j
    · obtain ⟨j, rfl⟩ : ∃ j', j = j' + 1 := ⟨j - 1, by omega⟩
      have hl : (l ++ d).length + 1 ≤ 140737488355328 := by
        have h1 := congrArg List.length HD.out
        rw [List.length_append, beBytes_length, beBytes_length] at h1
        rw [List.length_append]; omega
      have hsz1 := hW.size
      have HW := Lib.hid hW
      have HC : Hid (bcells [UInt8.ofNat (n / 256 ^ j)] = [.int .u8 ((n : Int) / 2 ^ (8 * j) % 256)]) := byte_cell n j
      clear hW
      go_wp2_with (go_at_call 136; refine (put_any base g v1 (l ++ d) [UInt8.ofNat (n / 256 ^ j)] _ 1 1 (wr.heap.size + 1) _ (HW.out.1.later (by go_grown)) (by rw [HC.out]; exact reads_lit wr 5 [_]) (by simp; omega) (by simpa using hl)).mono ?_; rintro e w2 ⟨rfl, v2, hp⟩; have HP := Lib.hid (HW.out.cat (by go_grown) hp); clear hp)
      go_roundw
      case rel => exact ⟨j, d ++ [UInt8.ofNat (n / 256 ^ j)], v2, by omega, by go_num, by show _ = _; rw [← HD.out]; simp [beBytes], HP.out⟩
      case measure => simp [intOf]
    · obtain rfl : j = 0 := by omega
      have HW := Lib.hid hW
      clear hW
      go_wp2
      go_end0
      have e := HD.out
      simp only [beBytes, List.append_nil] at e
      exact ⟨rfl, v1, e ▸ HW.out⟩
end Go.Proofs.YtnbaajplelchjaaGreatDoor
/- The writer: what has a number's or a length's form. -/
namespace Go.Proofs.YtnbaajplelchjaaGreatDoor
open Go.RowKit

def u32N (z : Int) : Nat := (z % 4294967296).toNat
def u64N (z : Int) : Nat := (IntKind.u64.wrap z).toNat
theorem u64_wrap_bd (z : Int) : 0 ≤ IntKind.u64.wrap z ∧ IntKind.u64.wrap z < 18446744073709551616 := by rw [IntKind.wrap_u64]; omega
theorem u32N_cast (z : Int) : ((u32N z : Nat) : Int) = z % 4294967296 := by unfold u32N; omega
theorem u64N_cast (z : Int) : ((u64N z : Nat) : Int) = z % 18446744073709551616 := by unfold u64N; rw [IntKind.wrap_u64]; omega
theorem u32N_lt (z : Int) : u32N z < 18446744073709551616 := by unfold u32N; omega
theorem u64N_lt (z : Int) : u64N z < 18446744073709551616 := by unfold u64N; rw [IntKind.wrap_u64]; omega
def bInt (z : Int) : List UInt8 := beBytes (u32N z) 4
def bLong (z : Int) : List UInt8 := beBytes (u64N z) 8
def bBool (b : Bool) : List UInt8 := [if b then 1 else 0]
def bByte (z : Int) : List UInt8 := [UInt8.ofNat z.toNat]
theorem bInt_len (z : Int) : (bInt z).length = 4 := beBytes_length _ _
theorem bLong_len (z : Int) : (bLong z).length = 8 := beBytes_length _ _
def bBuf (l : List UInt8) : List UInt8 := bInt l.length ++ l
theorem bBuf_len (l : List UInt8) : (bBuf l).length = 4 + l.length := by simp [bBuf, bInt_len]

theorem bInt_wrap (z : Int) : bInt (wrap32 (IntKind.u64.wrap z % 4294967296)) = bInt z := by
  have e : u32N (wrap32 (IntKind.u64.wrap z % 4294967296)) = u32N z := by
    unfold u32N wrap32
    rw [IntKind.wrap_u64]
    omega
  unfold bInt
  rw [e]

theorem bByte_cell (z : Int) (h0 : 0 ≤ z) (h1 : z < 256) : bcells (bByte z) = [.int .u8 z] := by
  have e : (UInt8.ofNat z.toNat).toNat = z.toNat := by rw [UInt8.toNat_ofNat']; omega
  simp only [bByte, bcells, List.map_cons, List.map_nil, e]
  congr 2
  omega

set_option maxRecDepth 100000 in
set_option maxHeartbeats 400000 in
theorem wBool_any (base g : Nat) (v : Value) (l : List UInt8) (b : Bool) (w : World) (h : Wr w base g v l) (hbase : base ≤ w.heap.size) (hsz : l.length + 8 ≤ 140737488355328) :
    Calls Tryz.prog 142 #[.pointer (some ⟨g, 0, none⟩), .bool b] w fun e w' => e = .returned (.tuple #[]) ∧ ∃ v', Wrote base g v v' l (bBool b) w w' := by
  have H0 := Lib.hid h
  clear h
  cases b
  · go_enter Tryz.func142, Tryz.ntmps142
    go_wp2_with (go_at_call 136; refine (put_any base g v l (bBool false) _ 1 1 (w.heap.size + 1) _ (H0.out.later (by go_grown)) (reads_lit w 5 [_]) (by simp; omega) (by simp [bBool]; omega)).mono ?_; rintro e w2 ⟨rfl, v2, hp⟩; have HP := Lib.hid (hp.from (w := w) (by go_grown)); clear hp)
    go_end0
    exact ⟨rfl, v2, HP.out⟩
  · go_enter Tryz.func142, Tryz.ntmps142
    go_wp2_with (go_at_call 136; refine (put_any base g v l (bBool true) _ 1 1 (w.heap.size + 1) _ (H0.out.later (by go_grown)) (reads_lit w 5 [_]) (by simp; omega) (by simp [bBool]; omega)).mono ?_; rintro e w2 ⟨rfl, v2, hp⟩; have HP := Lib.hid (hp.from (w := w) (by go_grown)); clear hp)
    refine bodyPost_ret (results_none rfl _ _ _) rfl ?_
    exact ⟨rfl, v2, HP.out⟩

set_option maxRecDepth 100000 in
set_option maxHeartbeats 400000 in
theorem wByte_any (base g : Nat) (v : Value) (l : List UInt8) (z : Int) (h0 : 0 ≤ z) (h1 : z < 256) (w : World) (h : Wr w base g v l) (hbase : base ≤ w.heap.size) (hsz : l.length + 8 ≤ 140737488355328) :
    Calls Tryz.prog 77 #[.pointer (some ⟨g, 0, none⟩), .int .u8 z] w fun e w' => e = .returned (.tuple #[]) ∧ ∃ v', Wrote base g v v' l (bByte z) w w' := by
  have H0 := Lib.hid h
  have HC := Lib.hid (bByte_cell z h0 h1)
  clear h
  go_enter Tryz.func77, Tryz.ntmps77
  go_wp2_with (go_at_call 136; refine (put_any base g v l (bByte z) _ 1 1 (w.heap.size + 1) _ (H0.out.later (by go_grown)) (by rw [HC.out]; exact reads_lit w 5 [_]) (by simp; omega) (by simp [bByte]; omega)).mono ?_; rintro e w2 ⟨rfl, v2, hp⟩; have HP := Lib.hid (hp.from (w := w) (by go_grown)); clear hp)
  go_end0
  exact ⟨rfl, v2, HP.out⟩

theorem wnumber4 (base g : Nat) (v : Value) (l : List UInt8) (z : Int) (h0 : 0 ≤ z) (h1 : z < 18446744073709551616) (w : World) (h : Wr w base g v l) (hbase : base ≤ w.heap.size) (hsz : l.length + 8 ≤ 140737488355328) :
    Calls Tryz.prog 75 #[.pointer (some ⟨g, 0, none⟩), .int .u64 z, .int .i64 4] w fun e w' => e = .returned (.tuple #[]) ∧ ∃ v', Wrote base g v v' l (beBytes z.toNat 4) w w' := by
  obtain ⟨n, rfl⟩ := Int.eq_ofNat_of_zero_le h0
  exact wnumber_any base g v l n 4 w h (by omega) (by omega) hbase hsz
theorem wnumber8 (base g : Nat) (v : Value) (l : List UInt8) (z : Int) (h0 : 0 ≤ z) (h1 : z < 18446744073709551616) (w : World) (h : Wr w base g v l) (hbase : base ≤ w.heap.size) (hsz : l.length + 8 ≤ 140737488355328) :
    Calls Tryz.prog 75 #[.pointer (some ⟨g, 0, none⟩), .int .u64 z, .int .i64 8] w fun e w' => e = .returned (.tuple #[]) ∧ ∃ v', Wrote base g v v' l (beBytes z.toNat 8) w w' := by
  obtain ⟨n, rfl⟩ := Int.eq_ofNat_of_zero_le h0
  exact wnumber_any base g v l n 8 w h (by omega) (by omega) hbase hsz

set_option maxRecDepth 100000 in
set_option maxHeartbeats 400000 in
theorem wInt_any (base g : Nat) (v : Value) (l : List UInt8) (z : Int) (w : World) (h : Wr w base g v l) (hbase : base ≤ w.heap.size) (hsz : l.length + 8 ≤ 140737488355328) :
    Calls Tryz.prog 32 #[.pointer (some ⟨g, 0, none⟩), .int .i32 z] w fun e w' => e = .returned (.tuple #[]) ∧ ∃ v', Wrote base g v v' l (bInt z) w w' := by
  have H0 := Lib.hid h
  clear h
  go_enter Tryz.func32, Tryz.ntmps32
  go_wp2_with (go_at_call 75; refine (wnumber4 base g v l _ (by omega) (by omega) _ H0.out hbase hsz).mono ?_; rintro e w2 ⟨rfl, v2, hp⟩; have HP := Lib.hid hp; clear hp)
  go_end0
  exact ⟨rfl, v2, HP.out⟩

set_option maxRecDepth 100000 in
set_option maxHeartbeats 400000 in
theorem wLong_any (base g : Nat) (v : Value) (l : List UInt8) (z : Int) (w : World) (h : Wr w base g v l) (hbase : base ≤ w.heap.size) (hsz : l.length + 8 ≤ 140737488355328) :
    Calls Tryz.prog 33 #[.pointer (some ⟨g, 0, none⟩), .int .i64 z] w fun e w' => e = .returned (.tuple #[]) ∧ ∃ v', Wrote base g v v' l (bLong z) w w' := by
  have H0 := Lib.hid h
  clear h
  go_enter Tryz.func33, Tryz.ntmps33
  go_wp2_with (go_at_call 75; refine (wnumber8 base g v l _ (u64_wrap_bd z).1 (u64_wrap_bd z).2 _ H0.out hbase hsz).mono ?_; rintro e w2 ⟨rfl, v2, hp⟩; have HP := Lib.hid hp; clear hp)
  go_end0
  exact ⟨rfl, v2, HP.out⟩

set_option maxRecDepth 100000 in
set_option maxHeartbeats 400000 in
theorem wCount_any (base g : Nat) (v : Value) (l : List UInt8) (z : Int) (w : World) (h : Wr w base g v l) (hbase : base ≤ w.heap.size) (hsz : l.length + 8 ≤ 140737488355328) :
    Calls Tryz.prog 137 #[.pointer (some ⟨g, 0, none⟩), .int .i64 z] w fun e w' => e = .returned (.tuple #[]) ∧ ∃ v', Wrote base g v v' l (bInt z) w w' := by
  have HE := Lib.hid (bInt_wrap z)
  have H0 := Lib.hid h
  clear h
  go_enter Tryz.func137, Tryz.ntmps137
  go_wp2_with (go_at_call 32; refine (wInt_any base g v l _ _ H0.out hbase hsz).mono ?_; rintro e w2 ⟨rfl, v2, hp⟩; have HP := Lib.hid (HE.out ▸ hp); clear hp)
  go_end0
  exact ⟨rfl, v2, HP.out⟩

end Go.Proofs.YtnbaajplelchjaaGreatDoor
/- The writer: buffers, texts; what was written. -/
namespace Go.Proofs.YtnbaajplelchjaaGreatDoor
open Go.RowKit

set_option maxRecDepth 100000 in
set_option maxHeartbeats 400000 in
theorem wBuffer_any (base g : Nat) (v : Value) (l k : List UInt8) (A : Option Addr) (m c B : Nat) (w : World) (h : Wr w base g v l) (hr : Reads w B 1 A m (bcells k)) (hB : B ≤ w.heap.size) (hsep : 0 < m → ∀ ad, A = some ad → ad.block ≠ g ∧ v.ownBlock ≠ some ad.block) (hbase : base ≤ w.heap.size) (hsz : l.length + k.length + 8 ≤ 140737488355328) :
    Calls Tryz.prog 78 #[.pointer (some ⟨g, 0, none⟩), .slice A m c] w fun e w' => e = .returned (.tuple #[]) ∧ ∃ v', Wrote base g v v' l (bBuf k) w w' := by
  have hm : k.length = m := by have := hr.1; rw [bcells_length] at this; omega
  subst hm
  have H0 := Lib.hid h
  have HR := Lib.hid hr
  have HS := Lib.hid hsep
  clear h hr hsep
  go_enter Tryz.func78, Tryz.ntmps78
  go_wp2_with (first
    | (go_at_call 137; refine (wCount_any base g v l _ _ H0.out hbase (by omega)).mono ?_; rintro e w1 ⟨rfl, v1, hp⟩; have HP := Lib.hid hp; clear hp)
    | (go_at_call 136
       have HR1 : Hid (Reads w1 B 1 A k.length (bcells k)) := ⟨HR.out.1, fun hn => (HR.out.kp' HP.out.2.1 hB (fun ad e hx => by
         rcases List.mem_cons.1 hx with hx | hx
         · exact (HS.out hn ad e).1 hx
         · exact (HS.out hn ad e).2 (by simpa using hx))).2 hn⟩
       refine (put_any base g v1 _ k A k.length c B _ HP.out.1 HR1.out (Nat.le_trans hbase HP.out.size) (by rw [List.length_append, bInt_len]; omega)).mono ?_; rintro e w2 ⟨rfl, v2, hq⟩; have HQ := Lib.hid (HP.out.cat (Below.refl _ _) hq); clear hq))
  go_end0
  exact ⟨rfl, v2, HQ.out⟩

/-- '[]byte(s)': a new row of the bytes of s -/
theorem conv_bytes (w : World) (s : ByteArray) : ∃ c w1, (convert 9 25 (.string s)).run Tryz.prog w = .ok (.slice (some ⟨w.heap.size, 0, none⟩) s.size c) w1 ∧ Reads w1 (w.heap.size + 1) 1 (some ⟨w.heap.size, 0, none⟩) s.size (bcells s.data.toList) ∧ Below w.heap.size w w1 ∧ w1.heap.size = w.heap.size + 1 := by
  have h := run_bytes_of_string (P := Tryz.prog) w 9 25 5 s Tryz.underlying9 Tryz.underlying25 Tryz.underlying5
  refine ⟨_, _, h, ⟨by rw [bcells_length, Nat.mul_one, bsize_eq], fun _ => ⟨_, rfl, Nat.lt_succ_self _, fun j u hu => ?_⟩⟩, (Below.refl _ _).drew.alloc (Nat.le_refl _) _, by simp⟩
  rw [Go.WideShapes.add_plain, Nat.zero_add]
  unfold World.cell?
  have hh := heap_alloc_new w.drew (.cells (bytesRow s (grownCap w s.size 0 5)) 5 ((bytesRow s (grownCap w s.size 0 5)).size, (bytesRow s (grownCap w s.size 0 5)).size + 1))
  have hd : w.drew.heap.size = w.heap.size := rfl
  rw [hd] at hh
  rw [hh]
  have hl : j < (bcells s.data.toList).length := (List.getElem?_eq_some_iff.1 hu).1
  rw [bcells_length] at hl
  have e : (bytesRow s (grownCap w s.size 0 5))[j]? = (bcells s.data.toList)[j]? := by
    unfold bytesRow
    rw [Array.getElem?_append_left (by simpa using hl)]
    simp [bcells]
  simpa [e] using hu

set_option maxRecDepth 100000 in
set_option maxHeartbeats 400000 in
theorem wText_any (base g : Nat) (v : Value) (l : List UInt8) (s : ByteArray) (w : World) (h : Wr w base g v l) (hbase : base ≤ w.heap.size) (hsz : l.length + s.size + 8 ≤ 140737488355328) :
    Calls Tryz.prog 61 #[.pointer (some ⟨g, 0, none⟩), .string s] w fun e w' => e = .returned (.tuple #[]) ∧ ∃ v', Wrote base g v v' l (bBuf s.data.toList) w w' := by
  obtain ⟨c, w1, hrun, hr, hb, hs⟩ := conv_bytes w s
  have H0 := Lib.hid h
  have HR := Lib.hid hr
  have HS : Hid (0 < s.size → ∀ ad, some (⟨w.heap.size, 0, none⟩ : Addr) = some ad → ad.block ≠ g ∧ v.ownBlock ≠ some ad.block) := fun _ ad e => by
    injection e with e
    subst e
    exact ⟨fun e => by have := h.lt; simp at e; omega, own_lt h.2 (Nat.le_refl _)⟩
  have hse : s.size = s.data.toList.length := bsize_eq s
  have HSE := Lib.hid hse
  have HH := Lib.hid hs
  have HB := Lib.hid hb
  clear h hr hse hs hb
  go_enter Tryz.func61, Tryz.ntmps61
  go_wp2_with (go_at_call 78; refine (wBuffer_any base g v l s.data.toList (some ⟨w.heap.size, 0, none⟩) s.size c (w.heap.size + 1) w1 (H0.out.later HB.out) HR.out (by rw [HH.out]; exact Nat.le_refl _) HS.out (by rw [HH.out]; omega) (by rw [← HSE.out]; omega)).mono ?_; rintro e w2 ⟨rfl, v2, hp⟩; have HP := Lib.hid (hp.from HB.out); clear hp)
  go_end0
  exact ⟨rfl, v2, HP.out⟩
end Go.Proofs.YtnbaajplelchjaaGreatDoor
/- The writer: copies of what was written; lists of texts. -/
namespace Go.Proofs.YtnbaajplelchjaaGreatDoor
open Go.RowKit

set_option maxHeartbeats 400000 in
theorem clone_any (A : Option Addr) (n c B : Nat) (xs : List Value) (w : World) (hr : Reads w B 1 A n xs) (h1 : ∀ u ∈ xs, u.oneCell' = true) (hB : B ≤ w.heap.size) (hn : n ≤ 140737488355328) (hnil : A = none → n = 0 ∧ c = 0) :
    Calls Tryz.prog 83 #[.slice A n c] w fun e w' => ∃ A' c', e = .returned (.slice A' n c') ∧ w'.ownsRow w.heap.size 5 1 (.slice A' n c') n xs ∧ Below w.heap.size w w' := by
  obtain ⟨i0, hi0, hz0, hz1, hz2⟩ := info_parts u8_info
  rcases A with _ | ad
  · obtain ⟨rfl, rfl⟩ := hnil rfl
    have hx : xs = [] := List.eq_nil_of_length_eq_zero (by simpa using hr.1)
    subst hx
    clear hr h1 hn hnil
    have hq := fun W : World => Lib.run_eql_slice_nil (P := Tryz.prog) W 25 5 none 0 0 0 0 Tryz.underlying25
    go_enter Tryz.func83, Tryz.ntmps83
    go_wp2
    go_ret
    exact ⟨_, _, rfl, World.ownsRow_nil _ _ _ _, Below.refl _ _⟩
  · have HR := Lib.hid hr
    have H1 := Lib.hid h1
    have hq := fun W : World => Lib.run_eql_slice_nil (P := Tryz.prog) W 25 5 (some ad) n c 0 0 Tryz.underlying25
    clear hr h1 hnil
    go_enter Tryz.func83, Tryz.ntmps83
    go_wp2_with (at_builtin; refine wpList_append_any _ rfl (.tmp 5) (.tmp 6) _ rfl w.heap.size 5 i0 _ 1 1 Tryz.underlying25 hi0 hz0 hz1 hz2 rfl (by decide) (.slice (some ⟨w.heap.size, 0, none⟩) 0 0) 0 [] rfl (World.ownsRow_made w #[] 0 (Nat.le_refl _) (by decide) rfl) B (some ad) n c xs rfl (HR.out.alloc hB _) H1.out (by simp only [maxLen]; omega) (by omega) (by simp) ?_; intro v1 w1 hown1 hg1 hat1)
    go_ret
    have hb1 : Below w.heap.size w w1 := ((Below.refl _ _).alloc (Nat.le_refl _) _).grown hg1 (by simp) (fun k hk => by simp [Value.ownBlock] at hk; omega)
    obtain ⟨A', c', rfl⟩ := slice_form hown1
    simp only [Nat.zero_add, List.nil_append] at hown1
    exact ⟨A', c', by simp, hown1, hb1⟩

set_option maxRecDepth 100000 in
set_option maxHeartbeats 400000 in
theorem wBytes_any (base g : Nat) (v : Value) (l : List UInt8) (w : World) (h : Wr w base g v l) (hsz : l.length ≤ 140737488355328) :
    Calls Tryz.prog 36 #[.pointer (some ⟨g, 0, none⟩)] w fun e w' => ∃ A' c', e = .returned (.slice A' l.length c') ∧ w'.ownsRow w.heap.size 5 1 (.slice A' l.length c') l.length (bcells l) ∧ Below w.heap.size w w' := by
  obtain ⟨hb, ho⟩ := h
  obtain ⟨A, c, rfl⟩ := slice_form ho
  have hc := hb.cell 0
  simp only [List.getElem?_toArray, List.getElem?_cons_zero] at hc
  have HO := Lib.hid ho
  clear hb ho
  go_enter Tryz.func36, Tryz.ntmps36
  go_wp2_with (go_at_call 83; refine (clone_any A l.length c w.heap.size (bcells l) w (Reads.of_own HO.out) (bcells_one _) (Nat.le_refl _) hsz (own_nil HO.out)).mono ?_; rintro e w1 ⟨A1, c1, rfl, h1, h2⟩)
  go_ret
  exact ⟨A1, c1, rfl, h1, h2⟩

set_option maxRecDepth 100000 in
set_option maxHeartbeats 400000 in
theorem wLen_any (base g : Nat) (v : Value) (l : List UInt8) (w : World) (h : Wr w base g v l) :
    Calls Tryz.prog 35 #[.pointer (some ⟨g, 0, none⟩)] w fun e w' => e = .returned (.int .i64 l.length) ∧ w = w' := by
  obtain ⟨hb, ho⟩ := h
  obtain ⟨A, c, rfl⟩ := slice_form ho
  have hc := hb.cell 0
  simp only [List.getElem?_toArray, List.getElem?_cons_zero] at hc
  clear hb ho
  go_enter Tryz.func35, Tryz.ntmps35
  go_wp2
  go_ret
  exact ⟨rfl, rfl⟩

/-- strings as cells -/
def scells (L : List ByteArray) : List Value := L.map fun s => .string s
theorem scells_length (L : List ByteArray) : (scells L).length = L.length := by simp [scells]
theorem scells_one (L : List ByteArray) : ∀ u ∈ scells L, u.oneCell' = true := by
  intro u hu
  obtain ⟨b, _, rfl⟩ := List.mem_map.1 hu
  rfl
theorem scells_append (L M : List ByteArray) : scells (L ++ M) = scells L ++ scells M := by simp [scells]

def bTexts (L : List ByteArray) : List UInt8 := L.flatMap fun s => bBuf s.data.toList
theorem bTexts_snoc (L : List ByteArray) (s : ByteArray) : bTexts (L ++ [s]) = bTexts L ++ bBuf s.data.toList := by simp [bTexts]

end Go.Proofs.YtnbaajplelchjaaGreatDoor
