/- What is kept of memory: all that lay there, but for the blocks that are named. -/
import Derived.Test.YtgbifmcdkigbgaaDoorBase
set_option linter.unusedVariables false
set_option linter.unusedSimpArgs false
namespace Go.Proofs.YtgbifmcdkigbgaaDoor
open Go.RowKit

/-- from w to w' nothing that lay in w has turned, but for the blocks in X -/
structure Kp (X : List Nat) (w w' : World) : Prop where
  os : w'.os = w.os
  tape : w'.tape = w.tape
  output : w'.output = w.output
  size : w.heap.size ≤ w'.heap.size
  block : ∀ k, k < w.heap.size → k ∉ X → w'.heap[k]? = w.heap[k]?

section
variable {X Y Z : List Nat} {w w' w1 w2 : World}
theorem Kp.refl (X : List Nat) (w : World) : Kp X w w := ⟨rfl, rfl, rfl, Nat.le_refl _, fun _ _ _ => rfl⟩
theorem Kp.to (h1 : Kp X w w1) (h2 : Kp Y w1 w2) (hX : ∀ x ∈ X, x < w.heap.size → x ∈ Z) (hY : ∀ y ∈ Y, y < w.heap.size → y ∈ Z) : Kp Z w w2 :=
  ⟨h2.os.trans h1.os, h2.tape.trans h1.tape, h2.output.trans h1.output, Nat.le_trans h1.size h2.size, fun k hk hn =>
    (h2.block k (Nat.lt_of_lt_of_le hk h1.size) (fun hy => hn (hY k hy hk))).trans (h1.block k hk (fun hx => hn (hX k hx hk)))⟩
theorem Kp.trans (h1 : Kp X w w1) (h2 : Kp X w1 w2) : Kp X w w2 := h1.to h2 (fun _ h _ => h) (fun _ h _ => h)
theorem Kp.mono (h : Kp X w w1) (hX : ∀ x ∈ X, x < w.heap.size → x ∈ Z) : Kp Z w w1 := h.to (Kp.refl [] _) hX (fun _ h => by cases h)
theorem Kp.of_below (h : Below w.heap.size w w') : Kp X w w' := ⟨h.os, h.tape, h.output, h.size, fun k hk _ => h.block k hk⟩
theorem Kp.below (h : Kp X w w') {B : Nat} (hB : ∀ x ∈ X, B ≤ x) (hw : B ≤ w.heap.size) : Below B w w' := ⟨h.os, h.tape, h.output, h.size, fun k hk => h.block k (by omega) (fun hx => by have := hB k hx; omega)⟩
theorem Kp.below' (h : Kp [] w w') : Below w.heap.size w w' := h.below (fun _ h => by cases h) (Nat.le_refl _)
theorem Kp.of_grown {row : Option Nat} (h : w.grownBy w' row) : Kp row.toList w w' := ⟨h.os, h.tape, h.output, h.size, fun k hk hn => h.block k hk (fun e => hn (by rw [← e]; simp))⟩
theorem Kp.drew : Kp X w w.drew := ⟨rfl, rfl, rfl, Nat.le_refl _, fun _ _ _ => rfl⟩
theorem Kp.drewN (n : Nat) : Kp X w (w.drewN n) := ⟨rfl, rfl, rfl, Nat.le_refl _, fun _ _ _ => rfl⟩
theorem Kp.alloc (o : Obj) : Kp X w (w.alloc o) := .of_below ((Below.refl _ _).alloc (Nat.le_refl _) _)
theorem Kp.setCell (p : Addr) (u : Value) : Kp [p.block] w (w.setCell p u) := ⟨rfl, rfl, rfl, by simp [World.setCell], fun k _ hn => Below.heap_setCell w p u k (fun e => hn (by simp [e]))⟩
theorem Kp.setRow (g : Nat) (cs : Array Value) : Kp [g] w (w.setRow g cs) := ⟨rfl, rfl, rfl, by simp [World.setRow], fun k _ hn => setRow_other w g k cs (fun e => hn (by simp [e]))⟩
theorem Kp.cell (h : Kp X w w') {p : Addr} (hl : p.block < w.heap.size) (hp : p.block ∉ X) : w'.cell? p = w.cell? p := World.cell?_of_block (h.block _ hl hp)
theorem Kp.froz (h : Kp X w w') {p : Addr} (hl : p.block < w.heap.size) (hp : p.block ∉ X) : w'.frozen? p = w.frozen? p := World.frozen?_of_block (h.block _ hl hp)
theorem Blk.kp {g : Nat} {t : TypeId} {cs : Array Value} (h : Blk w g t cs) (hk : Kp X w w') (hg : g ∉ X) : Blk w' g t cs := (hk.block g h.lt hg).trans h
theorem Reads.kp {B size n : Nat} {A : Option Addr} {xs : List Value} (h : Reads w B size A n xs) (hk : Kp X w w') (hB : B ≤ w.heap.size) (hX : ∀ x ∈ X, B ≤ x) : Reads w' B size A n xs := h.below (hk.below hX hB)
theorem Reads.kp' {B size n : Nat} {A : Option Addr} {xs : List Value} (h : Reads w B size A n xs) (hk : Kp X w w') (hB : B ≤ w.heap.size) (hX : ∀ ad, A = some ad → ad.block ∉ X) : Reads w' B size A n xs :=
  ⟨h.1, fun hn => by
    obtain ⟨ad, e, hb, hc⟩ := h.2 hn
    refine ⟨ad, e, hb, fun j u hu => ?_⟩
    rw [hk.cell (by rw [block_of_add]; omega) (by rw [block_of_add]; exact hX ad e)]
    exact hc j u hu⟩
theorem own_kp {base size n : Nat} {e : TypeId} {v : Value} {xs : List Value} (h : w.ownsRow base e size v n xs) (hk : Kp X w w') (hX : ∀ x ∈ X, v.ownBlock ≠ some x) : w'.ownsRow base e size v n xs := by
  refine ⟨h.1, ?_⟩
  rcases h.2 with hn | ⟨g, cap, cur, rfl, hb, hgg, rest⟩
  · exact .inl hn
  · refine .inr ⟨g, cap, cur, rfl, hb, ?_, rest⟩
    rw [hk.block g (Array.getElem?_eq_some_iff.1 hgg).1 (fun hx => hX g hx rfl)]
    exact hgg
end

/-- rows of two element types lie in two blocks -/
theorem own_own_ne {w : World} {b1 b2 : Nat} {e1 e2 : TypeId} {s1 s2 n1 n2 : Nat} {v1 v2 : Value} {x1 x2 : List Value} (h1 : w.ownsRow b1 e1 s1 v1 n1 x1) (h2 : w.ownsRow b2 e2 s2 v2 n2 x2) (hne : e1 ≠ e2) : ∀ x, v1.ownBlock = some x → v2.ownBlock = some x → False := by
  intro x hx1 hx2
  rcases h1.2 with ⟨rfl, _⟩ | ⟨g, cap, cur, rfl, _, hh, _⟩
  · simp [Value.ownBlock] at hx1
  · have : g = x := by simpa [Value.ownBlock] using hx1
    subst this
    exact own_blk_ne h2 hh hne.symm hx2
theorem bsize_eq (s : ByteArray) : s.size = s.data.toList.length := by cases s; simp [ByteArray.size]
/-- the bytes of a number, the highest first -/
def beBytes : Nat → Nat → List UInt8
  | _, 0 => []
  | n, k + 1 => UInt8.ofNat (n / 256 ^ k) :: beBytes n k
theorem beBytes_length (n k : Nat) : (beBytes n k).length = k := by
  induction k with
  | zero => rfl
  | succ k ih => simp [beBytes, ih]
/-- a number of bytes, the highest first -/
def beNum (l : List UInt8) : Nat := l.foldl (fun n b => n * 256 + b.toNat) 0
theorem beNum_snoc (l : List UInt8) (b : UInt8) : beNum (l ++ [b]) = beNum l * 256 + b.toNat := by simp [beNum]
theorem beNum_lt (l : List UInt8) : beNum l < 256 ^ l.length := by
  suffices h : ∀ (l : List UInt8) (n m : Nat), n < m → l.foldl (fun n b => n * 256 + b.toNat) n < m * 256 ^ l.length by
    have := h l 0 1 (by omega)
    simpa [beNum] using this
  intro l
  induction l with
  | nil => intro n m h; simpa using h
  | cons b l ih =>
    intro n m h
    have hb : b.toNat < 256 := b.toNat_lt
    have := ih (n * 256 + b.toNat) (m * 256) (by omega)
    simp only [List.foldl_cons, List.length_cons]
    calc _ < m * 256 * 256 ^ l.length := this
      _ = m * 256 ^ (l.length + 1) := by rw [Nat.pow_succ, Nat.mul_assoc, Nat.mul_comm 256]
end Go.Proofs.YtgbifmcdkigbgaaDoor
/- The writer: put, numbers, buffers, texts: what lies behind each call. -/
namespace Go.Proofs.YtgbifmcdkigbgaaDoor
open Go.RowKit

theorem u8_info : (Tryd.prog.info? 5).map (fun i => (i.zero, i.size, i.bytes)) = some (some (.int .u8 0), 1, 1) := by kernel_rfl

section
variable {w w1 w2 w' : World} {base g : Nat} {v v1 v2 : Value} {l k m : List UInt8}
end

end Go.Proofs.YtgbifmcdkigbgaaDoor
/- The writer: numbers. -/
namespace Go.Proofs.YtgbifmcdkigbgaaDoor
open Go.RowKit

theorem reads_lit (w : World) (t : TypeId) (xs : List Value) : Reads (w.alloc (.cells xs.toArray t)) (w.heap.size + 1) 1 (some ⟨w.heap.size, 0, none⟩) xs.length xs :=
  ⟨by simp, fun _ => ⟨_, rfl, Nat.lt_succ_self _, fun j u hu => by
    have h := (Blk.new w t xs.toArray).cell j
    rw [Go.WideShapes.add_plain, Nat.zero_add, h]
    simpa using hu⟩⟩

theorem byte_cell (n j : Nat) : bcells [UInt8.ofNat (n / 256 ^ j)] = [.int .u8 ((n : Int) / 2 ^ (8 * j) % 256)] := by
  have e : (UInt8.ofNat (n / 256 ^ j)).toNat = n / 2 ^ (8 * j) % 256 := by
    rw [UInt8.toNat_ofNat', show (256 : Nat) = 2 ^ 8 from rfl, ← Nat.pow_mul]
  simp only [bcells, List.map_cons, List.map_nil, e]
  congr 2

end Go.Proofs.YtgbifmcdkigbgaaDoor
/- The writer: what has a number's or a length's form. -/
namespace Go.Proofs.YtgbifmcdkigbgaaDoor
open Go.RowKit

def u32N (z : Int) : Nat := (z % 4294967296).toNat
def u64N (z : Int) : Nat := (IntKind.u64.wrap z).toNat
theorem u64_wrap_bd (z : Int) : 0 ≤ IntKind.u64.wrap z ∧ IntKind.u64.wrap z < 18446744073709551616 := by rw [IntKind.wrap_u64]; omega
theorem u32N_cast (z : Int) : ((u32N z : Nat) : Int) = z % 4294967296 := by unfold u32N; omega
theorem u64N_cast (z : Int) : ((u64N z : Nat) : Int) = z % 18446744073709551616 := by unfold u64N; rw [IntKind.wrap_u64]; omega
theorem u32N_lt (z : Int) : u32N z < 18446744073709551616 := by unfold u32N; omega
theorem u64N_lt (z : Int) : u64N z < 18446744073709551616 := by unfold u64N; rw [IntKind.wrap_u64]; omega
def bInt (z : Int) : List UInt8 := beBytes (u32N z) 4
def bLong (z : Int) : List UInt8 := beBytes (u64N z) 8
def bBool (b : Bool) : List UInt8 := [if b then 1 else 0]
def bByte (z : Int) : List UInt8 := [UInt8.ofNat z.toNat]
theorem bInt_len (z : Int) : (bInt z).length = 4 := beBytes_length _ _
theorem bLong_len (z : Int) : (bLong z).length = 8 := beBytes_length _ _
def bBuf (l : List UInt8) : List UInt8 := bInt l.length ++ l
theorem bBuf_len (l : List UInt8) : (bBuf l).length = 4 + l.length := by simp [bBuf, bInt_len]

theorem bInt_wrap (z : Int) : bInt (wrap32 (IntKind.u64.wrap z % 4294967296)) = bInt z := by
  have e : u32N (wrap32 (IntKind.u64.wrap z % 4294967296)) = u32N z := by
    unfold u32N wrap32
    rw [IntKind.wrap_u64]
    omega
  unfold bInt
  rw [e]

theorem bByte_cell (z : Int) (h0 : 0 ≤ z) (h1 : z < 256) : bcells (bByte z) = [.int .u8 z] := by
  have e : (UInt8.ofNat z.toNat).toNat = z.toNat := by rw [UInt8.toNat_ofNat']; omega
  simp only [bByte, bcells, List.map_cons, List.map_nil, e]
  congr 2
  omega

end Go.Proofs.YtgbifmcdkigbgaaDoor
/- The writer: buffers, texts; what was written. -/
namespace Go.Proofs.YtgbifmcdkigbgaaDoor
open Go.RowKit

/-- '[]byte(s)': a new row of the bytes of s -/
theorem conv_bytes (w : World) (s : ByteArray) : ∃ c w1, (convert 9 52 (.string s)).run Tryd.prog w = .ok (.slice (some ⟨w.heap.size, 0, none⟩) s.size c) w1 ∧ Reads w1 (w.heap.size + 1) 1 (some ⟨w.heap.size, 0, none⟩) s.size (bcells s.data.toList) ∧ Below w.heap.size w w1 ∧ w1.heap.size = w.heap.size + 1 := by
  have h := run_bytes_of_string (P := Tryd.prog) w 9 52 5 s Tryd.underlying9 Tryd.underlying52 Tryd.underlying5
  refine ⟨_, _, h, ⟨by rw [bcells_length, Nat.mul_one, bsize_eq], fun _ => ⟨_, rfl, Nat.lt_succ_self _, fun j u hu => ?_⟩⟩, (Below.refl _ _).drew.alloc (Nat.le_refl _) _, by simp⟩
  rw [Go.WideShapes.add_plain, Nat.zero_add]
  unfold World.cell?
  have hh := heap_alloc_new w.drew (.cells (bytesRow s (grownCap w s.size 0 5)) 5 ((bytesRow s (grownCap w s.size 0 5)).size, (bytesRow s (grownCap w s.size 0 5)).size + 1))
  have hd : w.drew.heap.size = w.heap.size := rfl
  rw [hd] at hh
  rw [hh]
  have hl : j < (bcells s.data.toList).length := (List.getElem?_eq_some_iff.1 hu).1
  rw [bcells_length] at hl
  have e : (bytesRow s (grownCap w s.size 0 5))[j]? = (bcells s.data.toList)[j]? := by
    unfold bytesRow
    rw [Array.getElem?_append_left (by simpa using hl)]
    simp [bcells]
  simpa [e] using hu

end Go.Proofs.YtgbifmcdkigbgaaDoor
/- The writer: copies of what was written; lists of texts. -/
namespace Go.Proofs.YtgbifmcdkigbgaaDoor
open Go.RowKit

/-- strings as cells -/
def scells (L : List ByteArray) : List Value := L.map fun s => .string s
theorem scells_length (L : List ByteArray) : (scells L).length = L.length := by simp [scells]
theorem scells_one (L : List ByteArray) : ∀ u ∈ scells L, u.oneCell' = true := by
  intro u hu
  obtain ⟨b, _, rfl⟩ := List.mem_map.1 hu
  rfl
theorem scells_append (L M : List ByteArray) : scells (L ++ M) = scells L ++ scells M := by simp [scells]

def bTexts (L : List ByteArray) : List UInt8 := L.flatMap fun s => bBuf s.data.toList
theorem bTexts_snoc (L : List ByteArray) (s : ByteArray) : bTexts (L ++ [s]) = bTexts L ++ bBuf s.data.toList := by simp [bTexts]

end Go.Proofs.YtgbifmcdkigbgaaDoor
