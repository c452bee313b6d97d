/- Part 4 of a proof: lemmas and walks. -/
import Derived.Test.YtpjjnmdfgcfnmaaGreatDoorK0
import Derived.Test.YtpjjnmdfgcfnmaaGreatDoorK1
import Derived.Test.YtpjjnmdfgcfnmaaGreatDoorK3
set_option linter.unusedVariables false
set_option linter.unusedSimpArgs false
set_option maxRecDepth 100000
set_option maxHeartbeats 4000000
namespace Go.Proofs.YtpjjnmdfgcfnmaaGreatDoor
open Go.RowKit

structure Kp (X : List Nat) (w w' : World) : Prop where
 os : w'.os = w.os
 tape : w'.tape = w.tape
 output : w'.output = w.output
 size : w.heap.size ≤ w'.heap.size
 block : ∀ k, k < w.heap.size → k ∉ X → w'.heap[k]? = w.heap[k]?

section
variable {X Y Z : List Nat} {w w' w1 w2 : World}
theorem Kp.refl (X : List Nat) (w : World) : Kp X w w := ⟨rfl, rfl, rfl, Nat.le_refl _, fun _ _ _ => rfl⟩
theorem Kp.to (h1 : Kp X w w1) (h2 : Kp Y w1 w2) (hX : ∀ x ∈ X, x < w.heap.size → x ∈ Z) (hY : ∀ y ∈ Y, y < w.heap.size → y ∈ Z) : Kp Z w w2 :=
 ⟨h2.os.trans h1.os, h2.tape.trans h1.tape, h2.output.trans h1.output, Nat.le_trans h1.size h2.size, fun k hk hn =>
   (h2.block k (Nat.lt_of_lt_of_le hk h1.size) (fun hy => hn (hY k hy hk))).trans (h1.block k hk (fun hx => hn (hX k hx hk)))⟩
theorem Kp.trans (h1 : Kp X w w1) (h2 : Kp X w1 w2) : Kp X w w2 := h1.to h2 (fun _ h _ => h) (fun _ h _ => h)
theorem Kp.mono (h : Kp X w w1) (hX : ∀ x ∈ X, x < w.heap.size → x ∈ Z) : Kp Z w w1 := h.to (Kp.refl [] _) hX (fun _ h => by cases h)
theorem Kp.of_below (h : Below w.heap.size w w') : Kp X w w' := ⟨h.os, h.tape, h.output, h.size, fun k hk _ => h.block k hk⟩
theorem Kp.below (h : Kp X w w') {B : Nat} (hB : ∀ x ∈ X, B ≤ x) (hw : B ≤ w.heap.size) : Below B w w' := ⟨h.os, h.tape, h.output, h.size, fun k hk => h.block k (by omega) (fun hx => by have := hB k hx; omega)⟩
theorem Kp.of_grown {row : Option Nat} (h : w.grownBy w' row) : Kp row.toList w w' := ⟨h.os, h.tape, h.output, h.size, fun k hk hn => h.block k hk (fun e => hn (by rw [← e]; simp))⟩
theorem Kp.drew : Kp X w w.drew := ⟨rfl, rfl, rfl, Nat.le_refl _, fun _ _ _ => rfl⟩
theorem Kp.drewN (n : Nat) : Kp X w (w.drewN n) := ⟨rfl, rfl, rfl, Nat.le_refl _, fun _ _ _ => rfl⟩
theorem Kp.alloc (o : Obj) : Kp X w (w.alloc o) := .of_below (zT.alloc zR _)
theorem Kp.setCell (p : Addr) (u : Value) : Kp [p.block] w (w.setCell p u) := ⟨rfl, rfl, rfl, by simp [World.setCell], fun k _ hn => Below.heap_setCell w p u k (fun e => hn (by simp [e]))⟩
theorem Kp.setRow (g : Nat) (cs : Array Value) : Kp [g] w (w.setRow g cs) := ⟨rfl, rfl, rfl, by simp [World.setRow], fun k _ hn => setRow_other w g k cs (fun e => hn (by simp [e]))⟩
theorem Kp.cell (h : Kp X w w') {p : Addr} (hl : p.block < w.heap.size) (hp : p.block ∉ X) : w'.cell? p = w.cell? p := World.cell?_of_block (h.block _ hl hp)
theorem Blk.kp {g : Nat} {t : TypeId} {cs : Array Value} (h : Blk w g t cs) (hk : Kp X w w') (hg : g ∉ X) : Blk w' g t cs := (hk.block g h.lt hg).trans h
theorem Reads.kp {B size n : Nat} {A : Option Addr} {xs : List Value} (h : Reads w B size A n xs) (hk : Kp X w w') (hB : B ≤ w.heap.size) (hX : ∀ x ∈ X, B ≤ x) : Reads w' B size A n xs := h.below (hk.below hX hB)
theorem Reads.kp' {B size n : Nat} {A : Option Addr} {xs : List Value} (h : Reads w B size A n xs) (hk : Kp X w w') (hB : B ≤ w.heap.size) (hX : ∀ ad, A = some ad → ad.block ∉ X) : Reads w' B size A n xs :=
 ⟨h.1, fun hn => by
   obtain ⟨ad, e, hb, hc⟩ := h.2 hn
   refine ⟨ad, e, hb, fun j u hu => ?_⟩
   rw [hk.cell (by rw [block_of_add]; omega) (by rw [block_of_add]; exact hX ad e)]
   exact hc j u hu⟩
theorem own_kp {base size n : Nat} {e : TypeId} {v : Value} {xs : List Value} (h : w.ownsRow base e size v n xs) (hk : Kp X w w') (hX : ∀ x ∈ X, v.ownBlock ≠ some x) : w'.ownsRow base e size v n xs := by
 refine ⟨h.1, ?_⟩
 rcases h.2 with hn | ⟨g, cap, cur, rfl, hb, hgg, rest⟩
 · exact .inl hn
 · refine .inr ⟨g, cap, cur, rfl, hb, ?_, rest⟩
   rw [hk.block g (Array.getElem?_eq_some_iff.1 hgg).1 (fun hx => hX g hx rfl)]
   exact hgg
end

theorem bsize_eq (s : ByteArray) : s.size = s.data.toList.length := by cases s; simp [ByteArray.size]
def beBytes : Nat → Nat → List UInt8
 | _, 0 => []
 | n, k + 1 => UInt8.ofNat (n / 256 ^ k) :: beBytes n k
theorem beBytes_length (n k : Nat) : (beBytes n k).length = k := by
 induction k with
 | zero => rfl
 | succ k ih => simp [beBytes, ih]
def beNum (l : List UInt8) : Nat := l.foldl (fun n b => n * 256 + b.toNat) 0
theorem beNum_snoc (l : List UInt8) (b : UInt8) : beNum (l ++ [b]) = beNum l * 256 + b.toNat := by simp [beNum]
theorem beNum_lt (l : List UInt8) : beNum l < 256 ^ l.length := by
 suffices h : ∀ (l : List UInt8) (n m : Nat), n < m → l.foldl (fun n b => n * 256 + b.toNat) n < m * 256 ^ l.length by
  have := h l 0 1 (by omega)
  simpa [beNum] using this
 intro l
 induction l with
 | nil => intro n m h; simpa using h
 | cons b l ih =>
   intro n m h
   have hb : b.toNat < 256 := b.toNat_lt
   have := ih (n * 256 + b.toNat) (m * 256) (by omega)
   simp only [List.foldl_cons, zM]
   calc _ < m * 256 * 256 ^ l.length := this
    _ = m * 256 ^ (l.length + 1) := by rw [Nat.pow_succ, Nat.mul_assoc, Nat.mul_comm 256]

theorem u8_info : (Tryz.prog.info? 5).map (fun i => (i.zero, i.size, i.bytes)) = some (some (.int .u8 0), 1, 1) := by kernel_rfl

def Wr (w : World) (base g : Nat) (v : Value) (l : List UInt8) : Prop := Blk w g 50 #[v] ∧ w.ownsRow base 5 1 v l.length (bcells l)

def Wrote (base g : Nat) (v v' : Value) (l k : List UInt8) (w w' : World) : Prop :=
 Wr w' base g v' (l ++ k) ∧ Kp (g :: v.ownBlock.toList) w w' ∧ (v'.ownBlock = v.ownBlock ∨ ∃ x, v'.ownBlock = some x ∧ w.heap.size ≤ x)

section
variable {w w1 w2 w' : World} {base g : Nat} {v v1 v2 : Value} {l k m : List UInt8}
theorem Wr.lt (h : Wr w base g v l) : g < w.heap.size := h.1.lt
theorem Wr.kp {X : List Nat} (h : Wr w base g v l) (hk : Kp X w w') (hg : g ∉ X) (hX : ∀ x ∈ X, v.ownBlock ≠ some x) : Wr w' base g v l := ⟨h.1.kp hk hg, own_kp h.2 hk hX⟩
theorem Wr.later (h : Wr w base g v l) (hb : Below w.heap.size w w') : Wr w' base g v l := ⟨h.1.below hb h.1.lt, own_kp h.2 (Kp.of_below (X := []) hb) (fun _ h => by cases h)⟩
theorem Wrote.start (h : Wr w base g v l) : Wrote base g v v l [] w w := ⟨by simpa using h, Kp.refl _ _, .inl rfl⟩
theorem Wrote.later (h : Wrote base g v v1 l k w w1) (hb : Below w1.heap.size w1 w') : Wrote base g v v1 l k w w' :=
 ⟨h.1.later hb, h.2.1.to (Kp.of_below (X := []) hb) (fun _ hx _ => hx) (fun _ h => by cases h), h.2.2⟩
theorem Wrote.size (h : Wrote base g v v1 l k w w') : w.heap.size ≤ w'.heap.size := h.2.1.size
theorem Wrote.cat (h : Wrote base g v v1 l k w w1) (hb : Below w1.heap.size w1 w2) (h2 : Wrote base g v1 v2 (l ++ k) m w2 w') : Wrote base g v v2 l (k ++ m) w w' := by
 obtain ⟨hw1, hk1, ho1⟩ := h.later hb
 obtain ⟨hw2, hk2, ho2⟩ := h2
 refine ⟨by rw [← zL]; exact hw2, hk1.to hk2 (fun x hx _ => hx) (fun y hy hl => ?_), ?_⟩
 · rcases zH.1 hy with rfl | hy
   · simp
   · rcases ho1 with e | ⟨x, e, hx⟩
     · rw [e] at hy; exact List.mem_cons_of_mem _ hy
     · rw [e] at hy; simp at hy; omega
 · rcases ho2 with e | ⟨x, e, hx⟩
   · rcases ho1 with e1 | ⟨y, e1, hy⟩
     · exact .inl (e.trans e1)
     · exact .inr ⟨y, e.trans e1, hy⟩
   · exact .inr ⟨x, e, Nat.le_trans hk1.size hx⟩
theorem Wrote.from (h : Wrote base g v v1 l k w1 w') (hb : Below w.heap.size w w1) : Wrote base g v v1 l k w w' := by
 obtain ⟨h1, h2, h3⟩ := h
 refine ⟨h1, (Kp.of_below (X := []) hb).to h2 (fun _ h => by cases h) (fun y hy _ => hy), ?_⟩
 rcases h3 with e | ⟨x, e, hx⟩
 · exact .inl e
 · exact .inr ⟨x, e, Nat.le_trans hb.size hx⟩
theorem Wrote.below {B : Nat} (h : Wrote base g v v1 l k w w') (hg : B ≤ g) (hv : ∀ x, v.ownBlock = some x → B ≤ x) (hw : B ≤ w.heap.size) : Below B w w' :=
 h.2.1.below (fun x hx => by
  rcases zH.1 hx with rfl | hx
  · exact hg
  · exact hv x (by simpa using hx)) hw
end

theorem put_any (base g : Nat) (v : Value) (l k : List UInt8) (A : Option Addr) (m c B : Nat) (w : World) (h : Wr w base g v l) (hr : Reads w B 1 A m (bcells k)) (hbase : base ≤ w.heap.size) (hsz : l.length + k.length ≤ 140737488355328) :
 Calls Tryz.prog 78 #[.pointer (some ⟨g, 0, none⟩), .slice A m c] w fun e w' => e = .returned (.tuple #[]) ∧ ∃ v', Wrote base g v v' l k w w' := by
 obtain ⟨i0, hi0, hz0, hz1, hz2⟩ := info_parts u8_info
 have hm : k.length = m := by have := hr.1; rw [bcells_length] at this; omega
 subst hm
 have HR := Hi hr
 obtain ⟨hb, ho⟩ := h
 have hc := hb.cell 0
 simp only [List.getElem?_toArray, List.getElem?_cons_zero] at hc
 have hf := hb.frozen 0
 have HB := Hi hb
 have HO := Hi ho
 clear hr hb ho
 go_enter Tryz.func78, Tryz.ntmps78
 go_wp2_with (at_builtin; refine wpList_append_any _ rfl (.tmp 10) (.tmp 11) _ rfl base 5 i0 _ 1 1 zU22 hi0 hz0 hz1 hz2 rfl (by decide) v l.length (bcells l) rfl HO.out B A k.length c (bcells k) rfl HR.out (bcells_one _) (by simp only [maxLen]; omega) (by omega) hbase ?_; intro v1 w1 hown1 hg1 hat1; obtain ⟨A1, c1, rfl⟩ := slice_form hown1; have hne : v.ownBlock ≠ some g := own_blk_ne HO.out HB.out (by decide); have hb1 : Blk w1 g 50 #[v] := HB.out.grown hg1 (fun e => hne e.symm); have hc1 := hb1.cell 0; have hf1 := hb1.frozen 0; simp only [List.getElem?_toArray, List.getElem?_cons_zero] at hc1; have HB1 := Hi hb1; have HO1 := Hi hown1; have HG1 := Hi hg1; have HA1 := Hi hat1; clear hb1 hown1 hg1 hat1 hc hf)
 go_end0
 refine ⟨rfl, .slice A1 (l.length + k.length) c1, ⟨?_, ?_⟩, ?_, ?_⟩
 · exact HB1.out.set_ 0 _
 · rw [bcells_append, zG]
   exact own_set HO1.out HB1.out (by decide) 0 _
 · exact (Kp.of_grown HG1.out).to (Kp.setCell _ _) (fun x hx _ => List.mem_cons_of_mem _ hx) (fun y hy _ => by simp at hy; simp [hy])
 · rcases HA1.out with e | e
   · exact .inl e
   · exact .inr ⟨_, e, Nat.le_refl _⟩

theorem reads_lit (w : World) (t : TypeId) (xs : List Value) : Reads (w.alloc (.cells xs.toArray t)) (w.heap.size + 1) 1 (some ⟨w.heap.size, 0, none⟩) xs.length xs :=
 ⟨by simp, fun _ => ⟨_, rfl, Nat.lt_succ_self _, fun j u hu => by
   have h := (Blk.new w t xs.toArray).cell j
   rw [zN, Nat.zero_add, h]
   simpa using hu⟩⟩

theorem byte_cell (n j : Nat) : bcells [UInt8.ofNat (n / 256 ^ j)] = [.int .u8 ((n : Int) / 2 ^ (8 * j) % 256)] := by
 have e : (UInt8.ofNat (n / 256 ^ j)).toNat = n / 2 ^ (8 * j) % 256 := by
  rw [UInt8.toNat_ofNat', show (256 : Nat) = 2 ^ 8 from rfl, ← Nat.pow_mul]
 simp only [bcells, List.map_cons, List.map_nil, e]
 congr 2

theorem wnumber_any (base g : Nat) (v : Value) (l : List UInt8) (n k : Nat) (w : World) (h : Wr w base g v l) (hn : n < 18446744073709551616) (hk : k ≤ 8) (hbase : base ≤ w.heap.size) (hsz : l.length + 8 ≤ 140737488355328) :
 Calls Tryz.prog 76 #[.pointer (some ⟨g, 0, none⟩), .int .u64 n, .int .i64 k] w fun e w' => e = .returned (.tuple #[]) ∧ ∃ v', Wrote base g v v' l (beBytes n k) w w' := by
 have H0 := Hi h
 clear h
 go_enter Tryz.func76, Tryz.ntmps76
 go_wp2
 go_loopw [6] (fun i wr => ∃ (j : Nat) (d : List UInt8) (v1 : Value), j ≤ k ∧ i = .int .i64 ((j : Int) - 1) ∧ Hid (d ++ beBytes n j = beBytes n k) ∧ Wrote base g v v1 l d w wr) (fun i _ => (intOf i + 1).toNat)
 case atStart => exact ⟨k, [], v, Nat.le_refl _, rfl, rfl, Wrote.start H0.out⟩
 case round =>
  obtain ⟨j, d, v1, hj, rfl, HD, hW⟩ := hrel
  by_cases hlt : 0 < j
  · obtain ⟨j, rfl⟩ : ∃ j', j = j' + 1 := ⟨j - 1, by omega⟩
    have hl : (l ++ d).length + 1 ≤ 140737488355328 := by
     have h1 := congrArg List.length HD.out
     rw [zG, beBytes_length, beBytes_length] at h1
     rw [zG]; omega
    have hsz1 := hW.size
    have HW := Hi hW
    have HC : Hid (bcells [UInt8.ofNat (n / 256 ^ j)] = [.int .u8 ((n : Int) / 2 ^ (8 * j) % 256)]) := byte_cell n j
    clear hW
    go_wp2_with (go_at_call 78; refine (put_any base g v1 (l ++ d) [UInt8.ofNat (n / 256 ^ j)] _ 1 1 (wr.heap.size + 1) _ (HW.out.1.later (by go_grown)) (by rw [HC.out]; exact reads_lit wr 5 [_]) (by simp; omega) (by simpa using hl)).mono ?_; rintro e w2 ⟨rfl, v2, hp⟩; have HP := Hi (HW.out.cat (by go_grown) hp); clear hp)
    go_roundw
    case rel => exact ⟨j, d ++ [UInt8.ofNat (n / 256 ^ j)], v2, by omega, by go_num, by show _ = _; rw [← HD.out]; simp [beBytes], HP.out⟩
    case measure => simp [intOf]
  · obtain rfl : j = 0 := by omega
    have HW := Hi hW
    clear hW
    go_wp2
    go_end0
    have e := HD.out
    simp only [beBytes, List.append_nil] at e
    exact ⟨rfl, v1, e ▸ HW.out⟩

def u32N (z : Int) : Nat := (z % 4294967296).toNat
def u64N (z : Int) : Nat := (IntKind.u64.wrap z).toNat
theorem u64_wrap_bd (z : Int) : 0 ≤ IntKind.u64.wrap z ∧ IntKind.u64.wrap z < 18446744073709551616 := by rw [IntKind.wrap_u64]; omega
theorem u32N_cast (z : Int) : ((u32N z : Nat) : Int) = z % 4294967296 := by unfold u32N; omega
theorem u64N_cast (z : Int) : ((u64N z : Nat) : Int) = z % 18446744073709551616 := by unfold u64N; rw [IntKind.wrap_u64]; omega
def bInt (z : Int) : List UInt8 := beBytes (u32N z) 4
def bLong (z : Int) : List UInt8 := beBytes (u64N z) 8
def bBool (b : Bool) : List UInt8 := [if b then 1 else 0]
theorem bInt_len (z : Int) : (bInt z).length = 4 := beBytes_length _ _
theorem bLong_len (z : Int) : (bLong z).length = 8 := beBytes_length _ _
def bBuf (l : List UInt8) : List UInt8 := bInt l.length ++ l
theorem bBuf_len (l : List UInt8) : (bBuf l).length = 4 + l.length := by simp [bBuf, bInt_len]

theorem bInt_wrap (z : Int) : bInt (wrap32 (IntKind.u64.wrap z % 4294967296)) = bInt z := by
 have e : u32N (wrap32 (IntKind.u64.wrap z % 4294967296)) = u32N z := by
  unfold u32N wrap32
  rw [IntKind.wrap_u64]
  omega
 unfold bInt
 rw [e]

theorem wBool_any (base g : Nat) (v : Value) (l : List UInt8) (b : Bool) (w : World) (h : Wr w base g v l) (hbase : base ≤ w.heap.size) (hsz : l.length + 8 ≤ 140737488355328) :
 Calls Tryz.prog 46 #[.pointer (some ⟨g, 0, none⟩), .bool b] w fun e w' => e = .returned (.tuple #[]) ∧ ∃ v', Wrote base g v v' l (bBool b) w w' := by
 have H0 := Hi h
 clear h
 cases b
 · go_enter Tryz.func46, Tryz.ntmps46
   go_wp2_with (go_at_call 78; refine (put_any base g v l (bBool false) _ 1 1 (w.heap.size + 1) _ (H0.out.later (by go_grown)) (reads_lit w 5 [_]) (by simp; omega) (by simp [bBool]; omega)).mono ?_; rintro e w2 ⟨rfl, v2, hp⟩; have HP := Hi (hp.from (w := w) (by go_grown)); clear hp)
   go_end0
   exact ⟨rfl, v2, HP.out⟩
 · go_enter Tryz.func46, Tryz.ntmps46
   go_wp2_with (go_at_call 78; refine (put_any base g v l (bBool true) _ 1 1 (w.heap.size + 1) _ (H0.out.later (by go_grown)) (reads_lit w 5 [_]) (by simp; omega) (by simp [bBool]; omega)).mono ?_; rintro e w2 ⟨rfl, v2, hp⟩; have HP := Hi (hp.from (w := w) (by go_grown)); clear hp)
   refine bodyPost_ret (results_none rfl _ _ _) rfl ?_
   exact ⟨rfl, v2, HP.out⟩

theorem wnumber4 (base g : Nat) (v : Value) (l : List UInt8) (z : Int) (h0 : 0 ≤ z) (h1 : z < 18446744073709551616) (w : World) (h : Wr w base g v l) (hbase : base ≤ w.heap.size) (hsz : l.length + 8 ≤ 140737488355328) :
 Calls Tryz.prog 76 #[.pointer (some ⟨g, 0, none⟩), .int .u64 z, .int .i64 4] w fun e w' => e = .returned (.tuple #[]) ∧ ∃ v', Wrote base g v v' l (beBytes z.toNat 4) w w' := by
 obtain ⟨n, rfl⟩ := Int.eq_ofNat_of_zero_le h0
 exact wnumber_any base g v l n 4 w h (by omega) (by omega) hbase hsz
theorem wnumber8 (base g : Nat) (v : Value) (l : List UInt8) (z : Int) (h0 : 0 ≤ z) (h1 : z < 18446744073709551616) (w : World) (h : Wr w base g v l) (hbase : base ≤ w.heap.size) (hsz : l.length + 8 ≤ 140737488355328) :
 Calls Tryz.prog 76 #[.pointer (some ⟨g, 0, none⟩), .int .u64 z, .int .i64 8] w fun e w' => e = .returned (.tuple #[]) ∧ ∃ v', Wrote base g v v' l (beBytes z.toNat 8) w w' := by
 obtain ⟨n, rfl⟩ := Int.eq_ofNat_of_zero_le h0
 exact wnumber_any base g v l n 8 w h (by omega) (by omega) hbase hsz

theorem wInt_any (base g : Nat) (v : Value) (l : List UInt8) (z : Int) (w : World) (h : Wr w base g v l) (hbase : base ≤ w.heap.size) (hsz : l.length + 8 ≤ 140737488355328) :
 Calls Tryz.prog 40 #[.pointer (some ⟨g, 0, none⟩), .int .i32 z] w fun e w' => e = .returned (.tuple #[]) ∧ ∃ v', Wrote base g v v' l (bInt z) w w' := by
 have H0 := Hi h
 clear h
 go_enter Tryz.func40, Tryz.ntmps40
 go_wp2_with (go_at_call 76; refine (wnumber4 base g v l _ (by omega) (by omega) _ H0.out hbase hsz).mono ?_; rintro e w2 ⟨rfl, v2, hp⟩; have HP := Hi hp; clear hp)
 go_end0
 exact ⟨rfl, v2, HP.out⟩

theorem wLong_any (base g : Nat) (v : Value) (l : List UInt8) (z : Int) (w : World) (h : Wr w base g v l) (hbase : base ≤ w.heap.size) (hsz : l.length + 8 ≤ 140737488355328) :
 Calls Tryz.prog 45 #[.pointer (some ⟨g, 0, none⟩), .int .i64 z] w fun e w' => e = .returned (.tuple #[]) ∧ ∃ v', Wrote base g v v' l (bLong z) w w' := by
 have H0 := Hi h
 clear h
 go_enter Tryz.func45, Tryz.ntmps45
 go_wp2_with (go_at_call 76; refine (wnumber8 base g v l _ (u64_wrap_bd z).1 (u64_wrap_bd z).2 _ H0.out hbase hsz).mono ?_; rintro e w2 ⟨rfl, v2, hp⟩; have HP := Hi hp; clear hp)
 go_end0
 exact ⟨rfl, v2, HP.out⟩

theorem wCount_any (base g : Nat) (v : Value) (l : List UInt8) (z : Int) (w : World) (h : Wr w base g v l) (hbase : base ≤ w.heap.size) (hsz : l.length + 8 ≤ 140737488355328) :
 Calls Tryz.prog 77 #[.pointer (some ⟨g, 0, none⟩), .int .i64 z] w fun e w' => e = .returned (.tuple #[]) ∧ ∃ v', Wrote base g v v' l (bInt z) w w' := by
 have HE := Hi (bInt_wrap z)
 have H0 := Hi h
 clear h
 go_enter Tryz.func77, Tryz.ntmps77
 go_wp2_with (go_at_call 40; refine (wInt_any base g v l _ _ H0.out hbase hsz).mono ?_; rintro e w2 ⟨rfl, v2, hp⟩; have HP := Hi (HE.out ▸ hp); clear hp)
 go_end0
 exact ⟨rfl, v2, HP.out⟩


theorem wBuffer_any (base g : Nat) (v : Value) (l k : List UInt8) (A : Option Addr) (m c B : Nat) (w : World) (h : Wr w base g v l) (hr : Reads w B 1 A m (bcells k)) (hB : B ≤ w.heap.size) (hsep : 0 < m → ∀ ad, A = some ad → ad.block ≠ g ∧ v.ownBlock ≠ some ad.block) (hbase : base ≤ w.heap.size) (hsz : l.length + k.length + 8 ≤ 140737488355328) :
 Calls Tryz.prog 43 #[.pointer (some ⟨g, 0, none⟩), .slice A m c] w fun e w' => e = .returned (.tuple #[]) ∧ ∃ v', Wrote base g v v' l (bBuf k) w w' := by
 have hm : k.length = m := by have := hr.1; rw [bcells_length] at this; omega
 subst hm
 have H0 := Hi h
 have HR := Hi hr
 have HS := Hi hsep
 clear h hr hsep
 go_enter Tryz.func43, Tryz.ntmps43
 go_wp2_with (first
  | (go_at_call 77; refine (wCount_any base g v l _ _ H0.out hbase (by omega)).mono ?_; rintro e w1 ⟨rfl, v1, hp⟩; have HP := Hi hp; clear hp)
  | (go_at_call 78
     have HR1 : Hid (Reads w1 B 1 A k.length (bcells k)) := ⟨HR.out.1, fun hn => (HR.out.kp' HP.out.2.1 hB (fun ad e hx => by
      rcases zH.1 hx with hx | hx
      · exact (HS.out hn ad e).1 hx
      · exact (HS.out hn ad e).2 (by simpa using hx))).2 hn⟩
     refine (put_any base g v1 _ k A k.length c B _ HP.out.1 HR1.out (Nat.le_trans hbase HP.out.size) (by rw [zG, bInt_len]; omega)).mono ?_; rintro e w2 ⟨rfl, v2, hq⟩; have HQ := Hi (HP.out.cat zT hq); clear hq))
 go_end0
 exact ⟨rfl, v2, HQ.out⟩

theorem conv_bytes (w : World) (s : ByteArray) : ∃ c w1, (convert 9 22 (.string s)).run Tryz.prog w = .ok (.slice (some ⟨w.heap.size, 0, none⟩) s.size c) w1 ∧ Reads w1 (w.heap.size + 1) 1 (some ⟨w.heap.size, 0, none⟩) s.size (bcells s.data.toList) ∧ Below w.heap.size w w1 ∧ w1.heap.size = w.heap.size + 1 := by
 have h := run_bytes_of_string (P := Tryz.prog) w 9 22 5 s zU9 zU22 zU5
 refine ⟨_, _, h, ⟨by rw [bcells_length, Nat.mul_one, bsize_eq], fun _ => ⟨_, rfl, Nat.lt_succ_self _, fun j u hu => ?_⟩⟩, zT.drew.alloc zR _, by simp⟩
 rw [zN, Nat.zero_add]
 unfold World.cell?
 have hh := heap_alloc_new w.drew (.cells (bytesRow s (grownCap w s.size 0 5)) 5 ((bytesRow s (grownCap w s.size 0 5)).size, (bytesRow s (grownCap w s.size 0 5)).size + 1))
 have hd : w.drew.heap.size = w.heap.size := rfl
 rw [hd] at hh
 rw [hh]
 have hl : j < (bcells s.data.toList).length := (List.getElem?_eq_some_iff.1 hu).1
 rw [bcells_length] at hl
 have e : (bytesRow s (grownCap w s.size 0 5))[j]? = (bcells s.data.toList)[j]? := by
  unfold bytesRow
  rw [Array.getElem?_append_left (by simpa using hl)]
  simp [bcells]
 simpa [e] using hu

theorem wText_any (base g : Nat) (v : Value) (l : List UInt8) (s : ByteArray) (w : World) (h : Wr w base g v l) (hbase : base ≤ w.heap.size) (hsz : l.length + s.size + 8 ≤ 140737488355328) :
 Calls Tryz.prog 42 #[.pointer (some ⟨g, 0, none⟩), .string s] w fun e w' => e = .returned (.tuple #[]) ∧ ∃ v', Wrote base g v v' l (bBuf s.data.toList) w w' := by
 obtain ⟨c, w1, hrun, hr, hb, hs⟩ := conv_bytes w s
 have H0 := Hi h
 have HR := Hi hr
 have HS : Hid (0 < s.size → ∀ ad, some (⟨w.heap.size, 0, none⟩ : Addr) = some ad → ad.block ≠ g ∧ v.ownBlock ≠ some ad.block) := fun _ ad e => by
  injection e with e
  subst e
  exact ⟨fun e => by have := h.lt; simp at e; omega, own_lt h.2 zR⟩
 have hse : s.size = s.data.toList.length := bsize_eq s
 have HSE := Hi hse
 have HH := Hi hs
 have HB := Hi hb
 clear h hr hse hs hb
 go_enter Tryz.func42, Tryz.ntmps42
 go_wp2_with (go_at_call 43; refine (wBuffer_any base g v l s.data.toList (some ⟨w.heap.size, 0, none⟩) s.size c (w.heap.size + 1) w1 (H0.out.later HB.out) HR.out (by rw [HH.out]; exact Nat.le_refl _) HS.out (by rw [HH.out]; omega) (by rw [← HSE.out]; omega)).mono ?_; rintro e w2 ⟨rfl, v2, hp⟩; have HP := Hi (hp.from HB.out); clear hp)
 go_end0
 exact ⟨rfl, v2, HP.out⟩

theorem clone_any (A : Option Addr) (n c B : Nat) (xs : List Value) (w : World) (hr : Reads w B 1 A n xs) (h1 : ∀ u ∈ xs, u.oneCell' = true) (hB : B ≤ w.heap.size) (hn : n ≤ 140737488355328) (hnil : A = none → n = 0 ∧ c = 0) :
 Calls Tryz.prog 53 #[.slice A n c] w fun e w' => ∃ A' c', e = .returned (.slice A' n c') ∧ w'.ownsRow w.heap.size 5 1 (.slice A' n c') n xs ∧ Below w.heap.size w w' := by
 obtain ⟨i0, hi0, hz0, hz1, hz2⟩ := info_parts u8_info
 rcases A with _ | ad
 · obtain ⟨rfl, rfl⟩ := hnil rfl
   have hx : xs = [] := List.eq_nil_of_length_eq_zero (by simpa using hr.1)
   subst hx
   clear hr h1 hn hnil
   have hq := fun W : World => Lib.run_eql_slice_nil (P := Tryz.prog) W 22 5 none 0 0 0 0 zU22
   go_enter Tryz.func53, Tryz.ntmps53
   go_wp2
   go_ret
   exact ⟨_, _, rfl, World.ownsRow_nil _ _ _ _, Below.refl _ _⟩
 · have HR := Hi hr
   have H1 := Hi h1
   have hq := fun W : World => Lib.run_eql_slice_nil (P := Tryz.prog) W 22 5 (some ad) n c 0 0 zU22
   clear hr h1 hnil
   go_enter Tryz.func53, Tryz.ntmps53
   go_wp2_with (at_builtin; refine wpList_append_any _ rfl (.tmp 5) (.tmp 6) _ rfl w.heap.size 5 i0 _ 1 1 zU22 hi0 hz0 hz1 hz2 rfl (by decide) (.slice (some ⟨w.heap.size, 0, none⟩) 0 0) 0 [] rfl (World.ownsRow_made w #[] 0 zR (by decide) rfl) B (some ad) n c xs rfl (HR.out.alloc hB _) H1.out (by simp only [maxLen]; omega) (by omega) (by simp) ?_; intro v1 w1 hown1 hg1 hat1)
   go_ret
   have hb1 : Below w.heap.size w w1 := (zT.alloc zR _).grown hg1 (by simp) (fun k hk => by simp [Value.ownBlock] at hk; omega)
   obtain ⟨A', c', rfl⟩ := slice_form hown1
   simp only [Nat.zero_add, List.nil_append] at hown1
   exact ⟨A', c', by simp, hown1, hb1⟩

theorem wBytes_any (base g : Nat) (v : Value) (l : List UInt8) (w : World) (h : Wr w base g v l) (hsz : l.length ≤ 140737488355328) :
 Calls Tryz.prog 25 #[.pointer (some ⟨g, 0, none⟩)] w fun e w' => ∃ A' c', e = .returned (.slice A' l.length c') ∧ w'.ownsRow w.heap.size 5 1 (.slice A' l.length c') l.length (bcells l) ∧ Below w.heap.size w w' := by
 obtain ⟨hb, ho⟩ := h
 obtain ⟨A, c, rfl⟩ := slice_form ho
 have hc := hb.cell 0
 simp only [List.getElem?_toArray, List.getElem?_cons_zero] at hc
 have HO := Hi ho
 clear hb ho
 go_enter Tryz.func25, Tryz.ntmps25
 go_wp2_with (go_at_call 53; refine (clone_any A l.length c w.heap.size (bcells l) w (Reads.of_own HO.out) (bcells_one _) zR hsz (own_nil HO.out)).mono ?_; rintro e w1 ⟨A1, c1, rfl, h1, h2⟩)
 go_ret
 exact ⟨A1, c1, rfl, h1, h2⟩

def scells (L : List ByteArray) : List Value := L.map fun s => .string s
theorem scells_length (L : List ByteArray) : (scells L).length = L.length := by simp [scells]
theorem scells_append (L M : List ByteArray) : scells (L ++ M) = scells L ++ scells M := by simp [scells]

def bTexts (L : List ByteArray) : List UInt8 := L.flatMap fun s => bBuf s.data.toList
theorem bTexts_snoc (L : List ByteArray) (s : ByteArray) : bTexts (L ++ [s]) = bTexts L ++ bBuf s.data.toList := by simp [bTexts]

def pIdB (x : ByteArray × ByteArray) : List UInt8 := bBuf x.1.data.toList ++ bBuf x.2.data.toList
def pIdsB (L : List (ByteArray × ByteArray)) : List UInt8 := L.flatMap pIdB
def pAclB (x : AclT) : List UInt8 := bInt x.1 ++ pIdB x.2
def pAclsB (L : List AclT) : List UInt8 := L.flatMap pAclB
theorem pIdB_len (x : ByteArray × ByteArray) : (pIdB x).length = 8 + x.1.size + x.2.size := by
 unfold pIdB
 rw [zG, bBuf_len, bBuf_len, ← bsize_eq, ← bsize_eq]
 omega
theorem pAclB_len (x : AclT) : (pAclB x).length = 12 + x.2.1.size + x.2.2.size := by
 unfold pAclB
 rw [zG, bInt_len, pIdB_len]
 omega
theorem strCells_eq (L : List ByteArray) : strCells L = scells L := by
 unfold strCells scells
 induction L with
 | nil => rfl
 | cons x r ih => rw [List.flatMap_cons, List.map_cons, ih]; rfl
theorem zerP_acl : ((Tryz.prog.info? 104).bind (·.zero)).map (·.cells.size) = some 3 := by kernel_rfl
theorem zerP_id : ((Tryz.prog.info? 102).bind (·.zero)).map (·.cells.size) = some 2 := by kernel_rfl
theorem textFn_ne (w : World) : (binOp .eql 77 (.func (.func 42) #[] #[]) .nilFunc).run Tryz.prog w = .ok (.bool false) w := by kernel_rfl
theorem aclFn_ne (w : World) : (binOp .eql 115 (.func (.func 80) #[] #[]) .nilFunc).run Tryz.prog w = .ok (.bool false) w := by kernel_rfl
theorem idFn_ne (w : World) : (binOp .eql 114 (.func (.func 81) #[] #[]) .nilFunc).run Tryz.prog w = .ok (.bool false) w := by kernel_rfl
theorem putId_any (base g : Nat) (v : Value) (l : List UInt8) (x : ByteArray × ByteArray) (w : World) (h : Wr w base g v l) (hbase : base ≤ w.heap.size) (hsz : l.length + x.1.size + x.2.size + 16 ≤ 140737488355328) :
 Calls Tryz.prog 81 #[.pointer (some ⟨g, 0, none⟩), .agg #[.string x.1, .string x.2]] w fun e w' => e = .returned (.tuple #[]) ∧ ∃ v', Wrote base g v v' l (pIdB x) w w' := by
 obtain ⟨s0, s1⟩ := x
 unfold pIdB
 dsimp only at hsz ⊢
 obtain ⟨w1, hw1⟩ := xa w #[.string s0, .string s1] 102
 have hn1 := zW hw1
 have hb1 := zV hw1
 have c0 := yC hn1 0 (u := .string s0) rfl
 have c1 := yC hn1 1 (u := .string s1) rfl
 have HN1 := Hi hn1
 have hg := h.lt
 have hv : ∀ x, v.ownBlock = some x → x < w.heap.size := fun x hx => (h.2.lt x hx).2
 have H0 := Hi (h.later hb1)
 have HB1 := Hi hb1
 have hz := hb1.size
 have H00 := Hi h
 clear h hn1 hb1
 go_enter Tryz.func81, Tryz.ntmps81
 go_wp2_with (first
  | (go_at_call 42
     refine (wText_any base g v l s0 _ H0.out (by omega) (by omega)).mono ?_
     rintro e w2 ⟨rfl, v2, hp⟩
     have HP2 := Hi hp
     have d1 : w2.cell? ⟨w.heap.size, 1, none⟩ = some (.string s1) := (hp.2.1.cell HN1.out.lt (by
      intro hx
      rcases zH.1 hx with hx | hx
      · have : w.heap.size = g := hx
        omega
      · have := hv w.heap.size (by simpa using hx)
        omega)).trans c1
     have hz2 := hp.size
     clear hp c0 c1 H0)
  | (go_at_call 42
     refine (wText_any base g v2 _ s1 _ HP2.out.1 (by omega) (by rw [zG, bBuf_len, ← bsize_eq]; omega)).mono ?_
     rintro e w3 ⟨rfl, v3, hp⟩
     have HP3 := Hi (HP2.out.cat zT hp)
     clear hp))
 go_end0
 exact ⟨rfl, v3, HP3.out.from HB1.out⟩
theorem putAcl_any (base g : Nat) (v : Value) (l : List UInt8) (x : AclT) (w : World) (h : Wr w base g v l) (hbase : base ≤ w.heap.size) (hsz : l.length + x.2.1.size + x.2.2.size + 24 ≤ 140737488355328) :
 Calls Tryz.prog 80 #[.pointer (some ⟨g, 0, none⟩), .agg #[.int .i32 x.1, .string x.2.1, .string x.2.2]] w fun e w' => e = .returned (.tuple #[]) ∧ ∃ v', Wrote base g v v' l (pAclB x) w w' := by
 obtain ⟨z, s0, s1⟩ := x
 unfold pAclB
 dsimp only at hsz ⊢
 obtain ⟨w1, hw1⟩ := xa w #[.int .i32 z, .string s0, .string s1] 104
 have hn1 := zW hw1
 have hb1 := zV hw1
 have c0 := yC hn1 0 (u := .int .i32 z) rfl
 have HN1 := Hi hn1
 have hg := h.lt
 have hv : ∀ x, v.ownBlock = some x → x < w.heap.size := fun x hx => (h.2.lt x hx).2
 have H0 := Hi (h.later hb1)
 have HB1 := Hi hb1
 have hz := hb1.size
 clear h hn1 hb1
 go_enter Tryz.func80, Tryz.ntmps80
 go_wp2_with (first
  | (go_at_call 40
     refine (wInt_any base g v l z _ H0.out (by omega) (by omega)).mono ?_
     rintro e w2 ⟨rfl, v2, hp⟩
     have HP2 := Hi hp
     have hn2 : Blk w2 w.heap.size 104 #[.int .i32 z, .string s0, .string s1] := HN1.out.kp hp.2.1 (by
      intro hx
      rcases zH.1 hx with hx | hx
      · have : w.heap.size = g := hx
        omega
      · have := hv w.heap.size (by simpa using hx)
        omega)
     have HR2 : Hid (∀ j v, ([.string s0, .string s1] : List Value)[j]? = some v → w2.cell? ((⟨w.heap.size, 1, none⟩ : Addr).add j) = some v) := (fun j v hv => by
      rw [zN]
      rcases j with _ | _ | j
      · simp at hv; subst hv; exact yC hn2 1 rfl
      · simp at hv; subst hv; exact yC hn2 2 rfl
      · simp at hv)
     have hz2 := hp.size
     clear hp c0 H0 hn2)
  | (refine wpList_load_at (by rfl) 102 (.tmp 9) rfl ⟨w.heap.size, 1, none⟩ rfl [.string s0, .string s1] _ HR2.out zU102 rfl isz_102 ?_)
  | (go_at_call 81
     refine (putId_any base g v2 _ (s0, s1) _ HP2.out.1 (by omega) (by rw [zG, bInt_len]; dsimp only; omega)).mono ?_
     rintro e w3 ⟨rfl, v3, hp⟩
     have HP3 := Hi (HP2.out.cat zT hp)
     clear hp))
 go_end0
 exact ⟨rfl, v3, HP3.out.from HB1.out⟩

theorem pTexts_any (base g : Nat) (v : Value) (l : List UInt8) (A : Option Addr) (n c B : Nat) (L : List ByteArray) (w : World) (h : Wr w base g v l) (hr : Reads w B 1 A n (scells L)) (hB : B ≤ base) (hg : base ≤ g) (hbase : base ≤ w.heap.size) (hn : n ≤ 9223372036854775807) (hsz : l.length + (bTexts L).length + 8 ≤ 140737488355328) :
 Calls Tryz.prog 47 #[.pointer (some ⟨g, 0, none⟩), .slice A n c, .func (.func 42) #[] #[]] w fun e w' => e = .returned (.tuple #[]) ∧ ∃ v', Wrote base g v v' l (bInt n ++ bTexts L) w w' := by
 have hl : L.length = n := by have := hr.1; rw [scells_length] at this; omega
 subst hl
 have HL := Hi (h.2.lt)
 have H0 := Hi h
 have HR := Hi hr
 clear h hr
 have hnf := textFn_ne
 go_enter Tryz.func47, Tryz.ntmps47
 go_wp2_with (first
  | (go_at_call 77; refine (wCount_any base g v l _ _ H0.out hbase (by omega)).mono ?_; rintro e w1 ⟨rfl, v1, hp⟩; have HP := Hi hp; clear hp))
 go_loopw [16] (fun i wr => ∃ (k : Nat) (v2 : Value), k ≤ L.length ∧ i = .int .i64 k ∧ Wrote base g v v2 l (bInt L.length ++ bTexts (L.take k)) w wr) (fun i _ => L.length - (intOf i).toNat)
 case atStart => exact ⟨0, v1, Nat.zero_le _, rfl, by simpa [bTexts] using HP.out⟩
 case round =>
  clear HP
  obtain ⟨k, v2, hk, rfl, hW⟩ := hrel
  have hbw := hW.below (B := B) (by omega) (fun x hx => by have := (HL.out x hx).1; omega) (by omega)
  have hsz1 := hW.size
  have HW := Hi hW
  clear hW
  by_cases hlt : k < L.length
  · obtain ⟨ad, u, e, _, hu, hcell⟩ := (HR.out.below hbw).at_ hlt
    subst e
    have hget : u = .string (L[k]) := by
     simp only [scells, List.getElem?_map, List.getElem?_eq_getElem hlt, Option.map_some, Option.some.injEq] at hu
     exact hu.symm
    subst hget
    have hle : (bTexts (L.take k)).length + (bBuf L[k].data.toList).length ≤ (bTexts L).length := by
     have e : bTexts L = bTexts (L.take k) ++ bBuf L[k].data.toList ++ bTexts (L.drop (k + 1)) := by
      rw [← bTexts_snoc, ← List.take_succ_eq_append_getElem hlt]
      simp only [bTexts, ← List.flatMap_append, List.take_append_drop]
     rw [e, zG, zG]
     omega
    rw [bBuf_len, ← bsize_eq] at hle
    clear hu hbw
    go_wp2_with (go_at_call 42; refine (wText_any base g v2 _ L[k] wr HW.out.1 (by omega) (by rw [zG, zG, bInt_len]; omega)).mono ?_; rintro e w2 ⟨rfl, v3, hp⟩; have HP := Hi (HW.out.cat zT hp); clear hp)
    go_roundw
    case rel => exact ⟨k + 1, v3, by omega, by go_num, by rw [List.take_succ_eq_append_getElem hlt, bTexts_snoc, ← zL]; exact HP.out⟩
    case measure => simp [intOf]; omega
  · have hkl : k = L.length := by omega
    have HK := Hi hkl
    clear hkl hbw
    go_wp2
    go_end0
    have hW := HW.out
    rw [HK.out, List.take_of_length_le zR] at hW
    exact ⟨rfl, v2, hW⟩

theorem pAclsB_snoc (L : List AclT) (x : AclT) : pAclsB (L ++ [x]) = pAclsB L ++ pAclB x := by simp [pAclsB]
theorem pAcls_any (base g : Nat) (v : Value) (l : List UInt8) (A : Option Addr) (n c B : Nat) (L : List AclT) (w : World) (h : Wr w base g v l) (hr : Reads w B 3 A n (aclCells L)) (hB : B ≤ base) (hg : base ≤ g) (hbase : base ≤ w.heap.size) (hn : n ≤ 9223372036854775807) (hsz : l.length + (pAclsB L).length + 40 ≤ 140737488355328) :
 Calls Tryz.prog 79 #[.pointer (some ⟨g, 0, none⟩), .slice A n c, .func (.func 80) #[] #[]] w fun e w' => e = .returned (.tuple #[]) ∧ ∃ v', Wrote base g v v' l (bInt n ++ pAclsB L) w w' := by
 have hl : L.length = n := by have := hr.1; rw [aclCells_length] at this; omega
 subst hl
 have HL := Hi (h.2.lt)
 have H0 := Hi h
 have HR := Hi hr
 clear h hr
 have hnf := aclFn_ne
 go_enter Tryz.func79, Tryz.ntmps79
 go_wp2_with (first
  | (go_at_call 77; refine (wCount_any base g v l _ _ H0.out hbase (by omega)).mono ?_; rintro e w1 ⟨rfl, v1, hp⟩; have HP := Hi hp; clear hp))
 go_loopw [16] (fun i wr => ∃ (k : Nat) (v2 : Value), k ≤ L.length ∧ i = .int .i64 k ∧ Wrote base g v v2 l (bInt L.length ++ pAclsB (L.take k)) w wr) (fun i _ => L.length - (intOf i).toNat)
 case atStart => exact ⟨0, v1, Nat.zero_le _, rfl, by simpa [pAclsB] using HP.out⟩
 case round =>
  clear HP
  obtain ⟨k, v2, hk, rfl, hW⟩ := hrel
  have hbw := hW.below (B := B) (by omega) (fun x hx => by have := (HL.out x hx).1; omega) (by omega)
  have hsz1 := hW.size
  have HW := Hi hW
  clear hW
  by_cases hlt : k < L.length
  · obtain ⟨b, off, hA, _, hx⟩ := (HR.out.below hbw).plain (by omega) (by omega)
    have hle : (pAclsB (L.take k)).length + (pAclB L[k]).length ≤ (pAclsB L).length := by
     have e : pAclsB L = pAclsB (L.take k) ++ pAclB L[k] ++ pAclsB (L.drop (k + 1)) := by
      rw [← pAclsB_snoc, ← List.take_succ_eq_append_getElem hlt]
      simp only [pAclsB, ← List.flatMap_append, List.take_append_drop]
     rw [e, zG, zG]
     omega
    rw [pAclB_len] at hle
    have HROW : Hid (∀ j v, ([.int .i32 L[k].1, .string L[k].2.1, .string L[k].2.2] : List Value)[j]? = some v → wr.cell? ((⟨b, off + k * 3, none⟩ : Addr).add j) = some v) := by
     obtain ⟨g0, g1, g2⟩ := aclCells_get L k hlt
     have x0 := hx _ _ g0
     have x1 := hx _ _ g1
     have x2 := hx _ _ g2
     exact fun j v hv => by
      rw [zN]
      rcases j with _ | _ | _ | j
      · simp at hv; subst hv; simpa using x0
      · simp at hv; subst hv; simpa [Nat.add_assoc] using x1
      · simp at hv; subst hv; simpa [Nat.add_assoc] using x2
      · simp at hv
    obtain ⟨w2, hw2⟩ := xa wr #[.int .i32 L[k].1, .string L[k].2.1, .string L[k].2.2] 104
    have HN2 := Hi (zW hw2)
    have hb2 := zV hw2
    have HW2 := Hi (HW.out.later hb2)
    have hz2 := hb2.size
    have HSN : Hid (pAclsB (L.take (k + 1)) = pAclsB (L.take k) ++ pAclB L[k]) := by unfold Hid; rw [List.take_succ_eq_append_getElem hlt, pAclsB_snoc]
    subst hA
    clear hx hbw hb2
    go_wp2_with (first
     | (refine wpList_load_at (by rfl) 104 (.tmp 18) rfl ⟨b, off + k * 3, none⟩ rfl [.int .i32 L[k].1, .string L[k].2.1, .string L[k].2.2] _ HROW.out zU104 rfl isz_104 ?_)
     | (refine wpList_newrow rfl rfl 104 rfl 7 rfl (.tmp 19) rfl rfl #[.int .i32 L[k].1, .string L[k].2.1, .string L[k].2.2] (fun _ => rfl) (show 7 < 25 by decide) zerP_acl isz_104 (by simp [Value.oneCell']) ?_
        rw [hw2])
     | (refine wpList_load_row rfl 104 (.tmp 7) rfl wr.heap.size rfl 104 _ _ _ HN2.out zU104 rfl isz_104 ?_)
     | (go_at_call 80
        refine (putAcl_any base g v2 _ L[k] w2 HW2.out.1 (by omega) (by rw [zG, zG, bInt_len]; omega)).mono ?_
        rintro e w3 ⟨rfl, v3, hp⟩
        have HP := Hi (HW2.out.cat zT hp)
        clear hp))
    go_roundw
    case rel => exact ⟨k + 1, v3, by omega, by go_num, by rw [HSN.out, ← zL]; exact HP.out⟩
    case measure => simp [intOf]; omega
  · have hkl : k = L.length := by omega
    have HK := Hi hkl
    clear hkl hbw
    go_wp2
    go_end0
    have hW := HW.out
    rw [HK.out, List.take_of_length_le zR] at hW
    exact ⟨rfl, v2, hW⟩

theorem pIdsB_snoc (L : List (ByteArray × ByteArray)) (x : (ByteArray × ByteArray)) : pIdsB (L ++ [x]) = pIdsB L ++ pIdB x := by simp [pIdsB]
theorem pIds_any (base g : Nat) (v : Value) (l : List UInt8) (A : Option Addr) (n c B : Nat) (L : List (ByteArray × ByteArray)) (w : World) (h : Wr w base g v l) (hr : Reads w B 2 A n (idCells L)) (hB : B ≤ base) (hg : base ≤ g) (hbase : base ≤ w.heap.size) (hn : n ≤ 9223372036854775807) (hsz : l.length + (pIdsB L).length + 40 ≤ 140737488355328) :
 Calls Tryz.prog 82 #[.pointer (some ⟨g, 0, none⟩), .slice A n c, .func (.func 81) #[] #[]] w fun e w' => e = .returned (.tuple #[]) ∧ ∃ v', Wrote base g v v' l (bInt n ++ pIdsB L) w w' := by
 have hl : L.length = n := by have := hr.1; rw [idCells_length] at this; omega
 subst hl
 have HL := Hi (h.2.lt)
 have H0 := Hi h
 have HR := Hi hr
 clear h hr
 have hnf := idFn_ne
 go_enter Tryz.func82, Tryz.ntmps82
 go_wp2_with (first
  | (go_at_call 77; refine (wCount_any base g v l _ _ H0.out hbase (by omega)).mono ?_; rintro e w1 ⟨rfl, v1, hp⟩; have HP := Hi hp; clear hp))
 go_loopw [16] (fun i wr => ∃ (k : Nat) (v2 : Value), k ≤ L.length ∧ i = .int .i64 k ∧ Wrote base g v v2 l (bInt L.length ++ pIdsB (L.take k)) w wr) (fun i _ => L.length - (intOf i).toNat)
 case atStart => exact ⟨0, v1, Nat.zero_le _, rfl, by simpa [pIdsB] using HP.out⟩
 case round =>
  clear HP
  obtain ⟨k, v2, hk, rfl, hW⟩ := hrel
  have hbw := hW.below (B := B) (by omega) (fun x hx => by have := (HL.out x hx).1; omega) (by omega)
  have hsz1 := hW.size
  have HW := Hi hW
  clear hW
  by_cases hlt : k < L.length
  · obtain ⟨b, off, hA, _, hx⟩ := (HR.out.below hbw).plain (by omega) (by omega)
    have hle : (pIdsB (L.take k)).length + (pIdB L[k]).length ≤ (pIdsB L).length := by
     have e : pIdsB L = pIdsB (L.take k) ++ pIdB L[k] ++ pIdsB (L.drop (k + 1)) := by
      rw [← pIdsB_snoc, ← List.take_succ_eq_append_getElem hlt]
      simp only [pIdsB, ← List.flatMap_append, List.take_append_drop]
     rw [e, zG, zG]
     omega
    rw [pIdB_len] at hle
    have HROW : Hid (∀ j v, ([.string L[k].1, .string L[k].2] : List Value)[j]? = some v → wr.cell? ((⟨b, off + k * 2, none⟩ : Addr).add j) = some v) := by
     obtain ⟨g0, g1⟩ := idCells_get L k hlt
     have x0 := hx _ _ g0
     have x1 := hx _ _ g1
     exact fun j v hv => by
      rw [zN]
      rcases j with _ | _ | j
      · simp at hv; subst hv; simpa using x0
      · simp at hv; subst hv; simpa [Nat.add_assoc] using x1
      · simp at hv
    obtain ⟨w2, hw2⟩ := xa wr #[.string L[k].1, .string L[k].2] 102
    have HN2 := Hi (zW hw2)
    have hb2 := zV hw2
    have HW2 := Hi (HW.out.later hb2)
    have hz2 := hb2.size
    have HSN : Hid (pIdsB (L.take (k + 1)) = pIdsB (L.take k) ++ pIdB L[k]) := by unfold Hid; rw [List.take_succ_eq_append_getElem hlt, pIdsB_snoc]
    subst hA
    clear hx hbw hb2
    go_wp2_with (first
     | (refine wpList_load_at (by rfl) 102 (.tmp 18) rfl ⟨b, off + k * 2, none⟩ rfl [.string L[k].1, .string L[k].2] _ HROW.out zU102 rfl isz_102 ?_)
     | (refine wpList_newrow rfl rfl 102 rfl 7 rfl (.tmp 19) rfl rfl #[.string L[k].1, .string L[k].2] (fun _ => rfl) (show 7 < 25 by decide) zerP_id isz_102 (by simp [Value.oneCell']) ?_
        rw [hw2])
     | (refine wpList_load_row rfl 102 (.tmp 7) rfl wr.heap.size rfl 102 _ _ _ HN2.out zU102 rfl isz_102 ?_)
     | (go_at_call 81
        refine (putId_any base g v2 _ L[k] w2 HW2.out.1 (by omega) (by rw [zG, zG, bInt_len]; omega)).mono ?_
        rintro e w3 ⟨rfl, v3, hp⟩
        have HP := Hi (HW2.out.cat zT hp)
        clear hp))
    go_roundw
    case rel => exact ⟨k + 1, v3, by omega, by go_num, by rw [HSN.out, ← zL]; exact HP.out⟩
    case measure => simp [intOf]; omega
  · have hkl : k = L.length := by omega
    have HK := Hi hkl
    clear hkl hbw
    go_wp2
    go_end0
    have hW := HW.out
    rw [HK.out, List.take_of_length_le zR] at hW
    exact ⟨rfl, v2, hW⟩

theorem aclPut_any (base g : Nat) (v : Value) (l : List UInt8) (A : Option Addr) (n c B : Nat) (L : List AclT) (w : World) (h : Wr w base g v l) (hr : Reads w B 3 A n (aclCells L)) (hB : B ≤ base) (hg : base ≤ g) (hbase : base ≤ w.heap.size) (hn : n ≤ 9223372036854775807) (hsz : l.length + (pAclsB L).length + 40 ≤ 140737488355328) :
 Calls Tryz.prog 44 #[.pointer (some ⟨g, 0, none⟩), .slice A n c] w fun e w' => e = .returned (.tuple #[]) ∧ ∃ v', Wrote base g v v' l (bInt n ++ pAclsB L) w w' := by
 have H := Hi (pAcls_any base g v l A n c B L w h hr hB hg hbase hn hsz)
 clear h hr
 go_enter Tryz.func44, Tryz.ntmps44
 go_wp2_with (go_at_call 79; refine (H.out).mono ?_; rintro e w2 ⟨rfl, hb⟩; have HB := Hi hb; clear hb)
 go_end0
 exact ⟨rfl, HB.out⟩
theorem aclPutIds_any (base g : Nat) (v : Value) (l : List UInt8) (A : Option Addr) (n c B : Nat) (L : List (ByteArray × ByteArray)) (w : World) (h : Wr w base g v l) (hr : Reads w B 2 A n (idCells L)) (hB : B ≤ base) (hg : base ≤ g) (hbase : base ≤ w.heap.size) (hn : n ≤ 9223372036854775807) (hsz : l.length + (pIdsB L).length + 40 ≤ 140737488355328) :
 Calls Tryz.prog 48 #[.pointer (some ⟨g, 0, none⟩), .slice A n c] w fun e w' => e = .returned (.tuple #[]) ∧ ∃ v', Wrote base g v v' l (bInt n ++ pIdsB L) w w' := by
 have H := Hi (pIds_any base g v l A n c B L w h hr hB hg hbase hn hsz)
 clear h hr
 go_enter Tryz.func48, Tryz.ntmps48
 go_wp2_with (go_at_call 82; refine (H.out).mono ?_; rintro e w2 ⟨rfl, hb⟩; have HB := Hi hb; clear hb)
 go_end0
 exact ⟨rfl, HB.out⟩
theorem header_any (base g : Nat) (v : Value) (l : List UInt8) (t : Int) (b : Bool) (w : World) (h : Wr w base g v l) (hbase : base ≤ w.heap.size) (hsz : l.length + 24 ≤ 140737488355328) :
 Calls Tryz.prog 49 #[.pointer (some ⟨g, 0, none⟩), .int .i32 t, .bool b] w fun e w' => e = .returned (.tuple #[]) ∧ ∃ v', Wrote base g v v' l (bInt t ++ bBool b ++ bInt (-1)) w w' := by
 have H0 := Hi h
 clear h
 go_enter Tryz.func49, Tryz.ntmps49
 go_wp2_with (first
  | (go_at_call 40
     refine (wInt_any base g v l t _ H0.out (by omega) (by omega)).mono ?_
     rintro e w1 ⟨rfl, v1, hp⟩
     have HP1 := Hi hp
     have hz1 := hp.size
     clear hp H0)
  | (go_at_call 46
     refine (wBool_any base g v1 _ b _ HP1.out.1 (by omega) (by rw [zG, bInt_len]; omega)).mono ?_
     rintro e w2 ⟨rfl, v2, hp⟩
     have HP2 := Hi (HP1.out.cat zT hp)
     have hz2 := hp.size
     clear hp HP1)
  | (go_at_call 40
     refine (wInt_any base g v2 _ (-1) _ HP2.out.1 (by omega) (by simp only [zG, bInt_len, bBool, zJ]; omega)).mono ?_
     rintro e w3 ⟨rfl, v3, hp⟩
     have HP3 := Hi (HP2.out.cat zT hp)
     clear hp HP2))
 go_end0
 exact ⟨rfl, v3, HP3.out⟩

theorem u8O_info : (Tryz.prog.info? 5).map (fun i => (i.zero, i.size, i.bytes)) = some (some (.int .u8 0), 1, 1) := by kernel_rfl
theorem acl_info : (Tryz.prog.info? 104).map (fun i => (i.zero, i.size, i.bytes)) = some (some (.agg #[.int .i32 0, .string .empty, .string .empty]), 3, 40) := by kernel_rfl
theorem id_info : (Tryz.prog.info? 102).map (fun i => (i.zero, i.size, i.bytes)) = some (some (.agg #[.string .empty, .string .empty]), 2, 32) := by kernel_rfl
theorem strO_info : (Tryz.prog.info? 9).map (fun i => (i.zero, i.size, i.bytes)) = some (some (.string .empty), 1, 16) := by kernel_rfl
def opZero : Array Value := #[.int .i32 0, .string .empty, .slice none 0 0, .slice none 0 0, .int .i32 0, .int .i32 0, .bool false, .int .i64 0, .int .i64 0, .int .i64 0, .int .i64 0, .slice none 0 0, .slice none 0 0, .slice none 0 0, .slice none 0 0, .slice none 0 0, .int .i32 0, .slice none 0 0, .slice none 0 0]
theorem op_info : (Tryz.prog.info? 29).map (fun i => (i.zero, i.size, i.bytes)) = some (some (.agg opZero), 19, 296) := by kernel_rfl
theorem one_flat {α : Type} (L : List α) (f : α → List Value) (h : ∀ x ∈ L, ∀ u ∈ f x, u.oneCell' = true) : ∀ u ∈ L.flatMap f, u.oneCell' = true := by
 intro u hu
 obtain ⟨x, hx, hux⟩ := List.mem_flatMap.1 hu
 exact h x hx u hux
theorem aclCells_one (L : List AclT) : ∀ u ∈ aclCells L, u.oneCell' = true := one_flat L _ fun x _ u hu => by
 simp only [zH, zI, or_false] at hu
 rcases hu with rfl | rfl | rfl <;> rfl
theorem idCells_one (L : List (ByteArray × ByteArray)) : ∀ u ∈ idCells L, u.oneCell' = true := one_flat L _ fun x _ u hu => by
 simp only [zH, zI, or_false] at hu
 rcases hu with rfl | rfl <;> rfl
theorem strCells_one (L : List ByteArray) : ∀ u ∈ strCells L, u.oneCell' = true := one_flat L _ fun x _ u hu => by
 simp only [zH, zI, or_false] at hu
 subst hu; rfl
theorem opCells_one {w : World} {lo : Option Nat} {Q : List (OpC × List Value)} (h : ∀ q ∈ Q, At w lo q.1 q.2) : ∀ u ∈ Q.flatMap Prod.snd, u.oneCell' = true := one_flat Q _ fun x hx u hu => by
 have := (h x hx).one
 rw [zQ] at this
 exact this u (by simpa using hu)
theorem SlAt.reach' {w : World} {lo : Option Nat} {e : TypeId} {size bytes len : Nat} {s : Sl} {xs : List Value} (h : SlAt w lo e size bytes s len xs) : s.n * bytes ≤ 140737488355328 := by
 have := h.reach
 unfold reachBytes at this
 omega

theorem bytesClone_own (A : Option Addr) (n c B : Nat) (xs : List Value) (w : World) (hr : Reads w B 1 A n xs) (h1 : ∀ u ∈ xs, u.oneCell' = true) (hB : B ≤ w.heap.size) (hn : n * 1 ≤ 140737488355328) (hnil : A = none → n = 0 ∧ c = 0) :
 Calls Tryz.prog 66 #[.slice A n c] w fun e w' => ∃ A' c', e = .returned (.slice A' n c') ∧ w'.ownsRow w.heap.size 5 1 (.slice A' n c') n xs ∧ Below w.heap.size w w' := by
 obtain ⟨i0, hi0, hz0, hz1, hz2⟩ := info_parts u8O_info
 rcases A with _ | ad
 · obtain ⟨rfl, rfl⟩ := hnil rfl
   have hx : xs = [] := List.eq_nil_of_length_eq_zero (by simpa using hr.1)
   subst hx
   clear hr h1 hn hnil
   have hq := fun W : World => Lib.run_eql_slice_nil (P := Tryz.prog) W 22 5 none 0 0 0 0 zU22
   go_enter Tryz.func66, Tryz.ntmps66
   go_wp2
   go_ret
   exact ⟨_, _, rfl, World.ownsRow_nil _ _ _ _, Below.refl _ _⟩
 · have HR := Hi hr
   have H1 := Hi h1
   have hq := fun W : World => Lib.run_eql_slice_nil (P := Tryz.prog) W 22 5 (some ad) n c 0 0 zU22
   clear hr h1 hnil
   go_enter Tryz.func66, Tryz.ntmps66
   go_wp2_with (at_builtin; refine wpList_append_any _ rfl (.tmp 5) (.tmp 6) _ rfl w.heap.size 5 i0 _ 1 1 zU22 hi0 hz0 hz1 hz2 rfl (by decide) (.slice (some ⟨w.heap.size, 0, none⟩) 0 0) 0 [] rfl (World.ownsRow_made w #[] 0 zR (by decide) rfl) B (some ad) n c xs rfl (HR.out.alloc hB _) H1.out (by simp only [maxLen]; omega) (by omega) (by simp) ?_; intro v1 w1 hown1 hg1 hat1)
   go_ret
   have hb1 : Below w.heap.size w w1 := (zT.alloc zR _).grown hg1 (by simp) (fun k hk => by simp [Value.ownBlock] at hk; omega)
   obtain ⟨A', c', rfl⟩ : ∃ A' c', v1 = .slice A' (0 + n) c' := by
    rcases hown1.2 with ⟨rfl, h0⟩ | ⟨g, cap, cur, rfl, _⟩
    · exact ⟨none, 0, by rw [h0]⟩
    · exact ⟨_, _, rfl⟩
   simp only [Nat.zero_add, List.nil_append] at hown1
   exact ⟨A', c', by simp, hown1, hb1⟩
theorem bytesClone_any {w : World} {lo : Option Nat} {s : Sl} {len : Nat} {xs : List Value} (h : SlAt w lo 5 1 1 s len xs) (h1 : ∀ u ∈ xs, u.oneCell' = true) :
 Calls Tryz.prog 66 #[.slice s.A s.n s.c] w fun e w' => ∃ s' : Sl, e = .returned (.slice s'.A s'.n s'.c) ∧ SlAt w' (some w.heap.size) 5 1 1 s' len xs ∧ Below w.heap.size w w' :=
 (bytesClone_own s.A s.n s.c w.heap.size xs w h.reads h1 zR h.reach' h.nil).mono fun _ _ ⟨A', c', h1, h2, h3⟩ => ⟨⟨A', s.n, c'⟩, h1, by rw [h.len]; exact SlAt.of_own h2 h.reach, h3⟩
theorem aclsClone_own (A : Option Addr) (n c B : Nat) (xs : List Value) (w : World) (hr : Reads w B 3 A n xs) (h1 : ∀ u ∈ xs, u.oneCell' = true) (hB : B ≤ w.heap.size) (hn : n * 40 ≤ 140737488355328) (hnil : A = none → n = 0 ∧ c = 0) :
 Calls Tryz.prog 67 #[.slice A n c] w fun e w' => ∃ A' c', e = .returned (.slice A' n c') ∧ w'.ownsRow w.heap.size 104 3 (.slice A' n c') n xs ∧ Below w.heap.size w w' := by
 obtain ⟨i0, hi0, hz0, hz1, hz2⟩ := info_parts acl_info
 rcases A with _ | ad
 · obtain ⟨rfl, rfl⟩ := hnil rfl
   have hx : xs = [] := List.eq_nil_of_length_eq_zero (by simpa using hr.1)
   subst hx
   clear hr h1 hn hnil
   have hq := fun W : World => Lib.run_eql_slice_nil (P := Tryz.prog) W 23 104 none 0 0 0 0 zU23
   go_enter Tryz.func67, Tryz.ntmps67
   go_wp2
   go_ret
   exact ⟨_, _, rfl, World.ownsRow_nil _ _ _ _, Below.refl _ _⟩
 · have HR := Hi hr
   have H1 := Hi h1
   have hq := fun W : World => Lib.run_eql_slice_nil (P := Tryz.prog) W 23 104 (some ad) n c 0 0 zU23
   clear hr h1 hnil
   go_enter Tryz.func67, Tryz.ntmps67
   go_wp2_with (at_builtin; refine wpList_append_any _ rfl (.tmp 5) (.tmp 6) _ rfl w.heap.size 104 i0 _ 3 40 zU23 hi0 hz0 hz1 hz2 rfl (by decide) (.slice (some ⟨w.heap.size, 0, none⟩) 0 0) 0 [] rfl (World.ownsRow_made w #[] 0 zR (by decide) rfl) B (some ad) n c xs rfl (HR.out.alloc hB _) H1.out (by simp only [maxLen]; omega) (by omega) (by simp) ?_; intro v1 w1 hown1 hg1 hat1)
   go_ret
   have hb1 : Below w.heap.size w w1 := (zT.alloc zR _).grown hg1 (by simp) (fun k hk => by simp [Value.ownBlock] at hk; omega)
   obtain ⟨A', c', rfl⟩ : ∃ A' c', v1 = .slice A' (0 + n) c' := by
    rcases hown1.2 with ⟨rfl, h0⟩ | ⟨g, cap, cur, rfl, _⟩
    · exact ⟨none, 0, by rw [h0]⟩
    · exact ⟨_, _, rfl⟩
   simp only [Nat.zero_add, List.nil_append] at hown1
   exact ⟨A', c', by simp, hown1, hb1⟩
theorem aclsClone_any {w : World} {lo : Option Nat} {s : Sl} {len : Nat} {xs : List Value} (h : SlAt w lo 104 3 40 s len xs) (h1 : ∀ u ∈ xs, u.oneCell' = true) :
 Calls Tryz.prog 67 #[.slice s.A s.n s.c] w fun e w' => ∃ s' : Sl, e = .returned (.slice s'.A s'.n s'.c) ∧ SlAt w' (some w.heap.size) 104 3 40 s' len xs ∧ Below w.heap.size w w' :=
 (aclsClone_own s.A s.n s.c w.heap.size xs w h.reads h1 zR h.reach' h.nil).mono fun _ _ ⟨A', c', h1, h2, h3⟩ => ⟨⟨A', s.n, c'⟩, h1, by rw [h.len]; exact SlAt.of_own h2 h.reach, h3⟩
theorem idsClone_own (A : Option Addr) (n c B : Nat) (xs : List Value) (w : World) (hr : Reads w B 2 A n xs) (h1 : ∀ u ∈ xs, u.oneCell' = true) (hB : B ≤ w.heap.size) (hn : n * 32 ≤ 140737488355328) (hnil : A = none → n = 0 ∧ c = 0) :
 Calls Tryz.prog 68 #[.slice A n c] w fun e w' => ∃ A' c', e = .returned (.slice A' n c') ∧ w'.ownsRow w.heap.size 102 2 (.slice A' n c') n xs ∧ Below w.heap.size w w' := by
 obtain ⟨i0, hi0, hz0, hz1, hz2⟩ := info_parts id_info
 rcases A with _ | ad
 · obtain ⟨rfl, rfl⟩ := hnil rfl
   have hx : xs = [] := List.eq_nil_of_length_eq_zero (by simpa using hr.1)
   subst hx
   clear hr h1 hn hnil
   have hq := fun W : World => Lib.run_eql_slice_nil (P := Tryz.prog) W 26 102 none 0 0 0 0 zU26
   go_enter Tryz.func68, Tryz.ntmps68
   go_wp2
   go_ret
   exact ⟨_, _, rfl, World.ownsRow_nil _ _ _ _, Below.refl _ _⟩
 · have HR := Hi hr
   have H1 := Hi h1
   have hq := fun W : World => Lib.run_eql_slice_nil (P := Tryz.prog) W 26 102 (some ad) n c 0 0 zU26
   clear hr h1 hnil
   go_enter Tryz.func68, Tryz.ntmps68
   go_wp2_with (at_builtin; refine wpList_append_any _ rfl (.tmp 5) (.tmp 6) _ rfl w.heap.size 102 i0 _ 2 32 zU26 hi0 hz0 hz1 hz2 rfl (by decide) (.slice (some ⟨w.heap.size, 0, none⟩) 0 0) 0 [] rfl (World.ownsRow_made w #[] 0 zR (by decide) rfl) B (some ad) n c xs rfl (HR.out.alloc hB _) H1.out (by simp only [maxLen]; omega) (by omega) (by simp) ?_; intro v1 w1 hown1 hg1 hat1)
   go_ret
   have hb1 : Below w.heap.size w w1 := (zT.alloc zR _).grown hg1 (by simp) (fun k hk => by simp [Value.ownBlock] at hk; omega)
   obtain ⟨A', c', rfl⟩ : ∃ A' c', v1 = .slice A' (0 + n) c' := by
    rcases hown1.2 with ⟨rfl, h0⟩ | ⟨g, cap, cur, rfl, _⟩
    · exact ⟨none, 0, by rw [h0]⟩
    · exact ⟨_, _, rfl⟩
   simp only [Nat.zero_add, List.nil_append] at hown1
   exact ⟨A', c', by simp, hown1, hb1⟩
theorem idsClone_any {w : World} {lo : Option Nat} {s : Sl} {len : Nat} {xs : List Value} (h : SlAt w lo 102 2 32 s len xs) (h1 : ∀ u ∈ xs, u.oneCell' = true) :
 Calls Tryz.prog 68 #[.slice s.A s.n s.c] w fun e w' => ∃ s' : Sl, e = .returned (.slice s'.A s'.n s'.c) ∧ SlAt w' (some w.heap.size) 102 2 32 s' len xs ∧ Below w.heap.size w w' :=
 (idsClone_own s.A s.n s.c w.heap.size xs w h.reads h1 zR h.reach' h.nil).mono fun _ _ ⟨A', c', h1, h2, h3⟩ => ⟨⟨A', s.n, c'⟩, h1, by rw [h.len]; exact SlAt.of_own h2 h.reach, h3⟩
theorem strsClone_own (A : Option Addr) (n c B : Nat) (xs : List Value) (w : World) (hr : Reads w B 1 A n xs) (h1 : ∀ u ∈ xs, u.oneCell' = true) (hB : B ≤ w.heap.size) (hn : n * 16 ≤ 140737488355328) (hnil : A = none → n = 0 ∧ c = 0) :
 Calls Tryz.prog 69 #[.slice A n c] w fun e w' => ∃ A' c', e = .returned (.slice A' n c') ∧ w'.ownsRow w.heap.size 9 1 (.slice A' n c') n xs ∧ Below w.heap.size w w' := by
 obtain ⟨i0, hi0, hz0, hz1, hz2⟩ := info_parts strO_info
 rcases A with _ | ad
 · obtain ⟨rfl, rfl⟩ := hnil rfl
   have hx : xs = [] := List.eq_nil_of_length_eq_zero (by simpa using hr.1)
   subst hx
   clear hr h1 hn hnil
   have hq := fun W : World => Lib.run_eql_slice_nil (P := Tryz.prog) W 24 9 none 0 0 0 0 zU24
   go_enter Tryz.func69, Tryz.ntmps69
   go_wp2
   go_ret
   exact ⟨_, _, rfl, World.ownsRow_nil _ _ _ _, Below.refl _ _⟩
 · have HR := Hi hr
   have H1 := Hi h1
   have hq := fun W : World => Lib.run_eql_slice_nil (P := Tryz.prog) W 24 9 (some ad) n c 0 0 zU24
   clear hr h1 hnil
   go_enter Tryz.func69, Tryz.ntmps69
   go_wp2_with (at_builtin; refine wpList_append_any _ rfl (.tmp 5) (.tmp 6) _ rfl w.heap.size 9 i0 _ 1 16 zU24 hi0 hz0 hz1 hz2 rfl (by decide) (.slice (some ⟨w.heap.size, 0, none⟩) 0 0) 0 [] rfl (World.ownsRow_made w #[] 0 zR (by decide) rfl) B (some ad) n c xs rfl (HR.out.alloc hB _) H1.out (by simp only [maxLen]; omega) (by omega) (by simp) ?_; intro v1 w1 hown1 hg1 hat1)
   go_ret
   have hb1 : Below w.heap.size w w1 := (zT.alloc zR _).grown hg1 (by simp) (fun k hk => by simp [Value.ownBlock] at hk; omega)
   obtain ⟨A', c', rfl⟩ : ∃ A' c', v1 = .slice A' (0 + n) c' := by
    rcases hown1.2 with ⟨rfl, h0⟩ | ⟨g, cap, cur, rfl, _⟩
    · exact ⟨none, 0, by rw [h0]⟩
    · exact ⟨_, _, rfl⟩
   simp only [Nat.zero_add, List.nil_append] at hown1
   exact ⟨A', c', by simp, hown1, hb1⟩
theorem strsClone_any {w : World} {lo : Option Nat} {s : Sl} {len : Nat} {xs : List Value} (h : SlAt w lo 9 1 16 s len xs) (h1 : ∀ u ∈ xs, u.oneCell' = true) :
 Calls Tryz.prog 69 #[.slice s.A s.n s.c] w fun e w' => ∃ s' : Sl, e = .returned (.slice s'.A s'.n s'.c) ∧ SlAt w' (some w.heap.size) 9 1 16 s' len xs ∧ Below w.heap.size w w' :=
 (strsClone_own s.A s.n s.c w.heap.size xs w h.reads h1 zR h.reach' h.nil).mono fun _ _ ⟨A', c', h1, h2, h3⟩ => ⟨⟨A', s.n, c'⟩, h1, by rw [h.len]; exact SlAt.of_own h2 h.reach, h3⟩
theorem opsClone_own (A : Option Addr) (n c B : Nat) (xs : List Value) (w : World) (hr : Reads w B 19 A n xs) (h1 : ∀ u ∈ xs, u.oneCell' = true) (hB : B ≤ w.heap.size) (hn : n * 296 ≤ 140737488355328) (hnil : A = none → n = 0 ∧ c = 0) :
 Calls Tryz.prog 70 #[.slice A n c] w fun e w' => ∃ A' c', e = .returned (.slice A' n c') ∧ w'.ownsRow w.heap.size 29 19 (.slice A' n c') n xs ∧ Below w.heap.size w w' := by
 obtain ⟨i0, hi0, hz0, hz1, hz2⟩ := info_parts op_info
 rcases A with _ | ad
 · obtain ⟨rfl, rfl⟩ := hnil rfl
   have hx : xs = [] := List.eq_nil_of_length_eq_zero (by simpa using hr.1)
   subst hx
   clear hr h1 hn hnil
   have hq := fun W : World => Lib.run_eql_slice_nil (P := Tryz.prog) W 27 29 none 0 0 0 0 zU27
   go_enter Tryz.func70, Tryz.ntmps70
   go_wp2
   go_ret
   exact ⟨_, _, rfl, World.ownsRow_nil _ _ _ _, Below.refl _ _⟩
 · have HR := Hi hr
   have H1 := Hi h1
   have hq := fun W : World => Lib.run_eql_slice_nil (P := Tryz.prog) W 27 29 (some ad) n c 0 0 zU27
   clear hr h1 hnil
   go_enter Tryz.func70, Tryz.ntmps70
   go_wp2_with (at_builtin; refine wpList_append_any _ rfl (.tmp 5) (.tmp 6) _ rfl w.heap.size 29 i0 _ 19 296 zU27 hi0 hz0 hz1 hz2 rfl (by decide) (.slice (some ⟨w.heap.size, 0, none⟩) 0 0) 0 [] rfl (World.ownsRow_made w #[] 0 zR (by decide) rfl) B (some ad) n c xs rfl (HR.out.alloc hB _) H1.out (by simp only [maxLen]; omega) (by omega) (by simp) ?_; intro v1 w1 hown1 hg1 hat1)
   go_ret
   have hb1 : Below w.heap.size w w1 := (zT.alloc zR _).grown hg1 (by simp) (fun k hk => by simp [Value.ownBlock] at hk; omega)
   obtain ⟨A', c', rfl⟩ : ∃ A' c', v1 = .slice A' (0 + n) c' := by
    rcases hown1.2 with ⟨rfl, h0⟩ | ⟨g, cap, cur, rfl, _⟩
    · exact ⟨none, 0, by rw [h0]⟩
    · exact ⟨_, _, rfl⟩
   simp only [Nat.zero_add, List.nil_append] at hown1
   exact ⟨A', c', by simp, hown1, hb1⟩
theorem opsClone_any {w : World} {lo : Option Nat} {s : Sl} {len : Nat} {xs : List Value} (h : SlAt w lo 29 19 296 s len xs) (h1 : ∀ u ∈ xs, u.oneCell' = true) :
 Calls Tryz.prog 70 #[.slice s.A s.n s.c] w fun e w' => ∃ s' : Sl, e = .returned (.slice s'.A s'.n s'.c) ∧ SlAt w' (some w.heap.size) 29 19 296 s' len xs ∧ Below w.heap.size w w' :=
 (opsClone_own s.A s.n s.c w.heap.size xs w h.reads h1 zR h.reach' h.nil).mono fun _ _ ⟨A', c', h1, h2, h3⟩ => ⟨⟨A', s.n, c'⟩, h1, by rw [h.len]; exact SlAt.of_own h2 h.reach, h3⟩

section
variable {w w' : World} {b b' g : Nat} {e : TypeId} {size bytes len n : Nat} {s : Sl} {v : Value} {xs : List Value}
theorem own_lo (h : w.ownsRow b e size v n xs) (hb : b' ≤ b) : w.ownsRow b' e size v n xs := ⟨h.1, h.2.imp id fun ⟨g, cap, cur, h1, h2, h3⟩ => ⟨g, cap, cur, h1, Nat.le_trans hb h2, h3⟩⟩
theorem own_grown (h : w.ownsRow b e size v n xs) (hg : w.grownBy w' (some g)) (hlt : g < b) : w'.ownsRow b e size v n xs := by
 refine h.kept hg ?_
 cases hv : v.ownBlock with
 | none => exact .inl rfl
 | some k =>
   right
   intro he
   injection he with he
   have := (h.lt k hv).1
   omega
theorem SlAt.lo (h : SlAt w (some b) e size bytes s len xs) (hb : b' ≤ b) : SlAt w (some b') e size bytes s len xs :=
 ⟨h.nil, h.le, h.cap, h.reach, h.len, h.reads, fun c hc => by injection hc with hc; subst hc; exact own_lo (h.own b rfl) hb⟩
theorem SlAt.grown (h : SlAt w (some b) e size bytes s len xs) (hg : w.grownBy w' (some g)) (hlt : g < b) : SlAt w' (some b) e size bytes s len xs := by
 have ho := own_grown (h.own b rfl) hg hlt
 exact ⟨h.nil, h.le, h.cap, h.reach, h.len, Reads.of_own ho, fun c hc => by injection hc with hc; subst hc; exact ho⟩
theorem At.lo {x : OpC} {cs : List Value} {lo : Option Nat} (h : At w lo x cs) : ∀ {b b' : Nat}, lo = some b → b' ≤ b → At w (some b') x cs := by
 induction h with
 | mk f d a k0 k1 k2 k3 k4 i s Q ok hd ha hk0 hk1 hk2 hk3 hk4 hi hs _ ih =>
   intro b b' hlo hb
   subst hlo
   exact .mk f d a k0 k1 k2 k3 k4 i s Q ok (hd.lo hb) (ha.lo hb) (hk0.lo hb) (hk1.lo hb) (hk2.lo hb) (hk3.lo hb) (hk4.lo hb) (hi.lo hb) (hs.lo hb) fun q hq => ih q hq rfl hb
theorem At.grown {x : OpC} {cs : List Value} {lo : Option Nat} (h : At w lo x cs) : ∀ {b : Nat}, lo = some b → w.grownBy w' (some g) → g < b → At w' (some b) x cs := by
 induction h with
 | mk f d a k0 k1 k2 k3 k4 i s Q ok hd ha hk0 hk1 hk2 hk3 hk4 hi hs _ ih =>
   intro b hlo hg hlt
   subst hlo
   exact .mk f d a k0 k1 k2 k3 k4 i s Q ok (hd.grown hg hlt) (ha.grown hg hlt) (hk0.grown hg hlt) (hk1.grown hg hlt) (hk2.grown hg hlt) (hk3.grown hg hlt) (hk4.grown hg hlt) (hi.grown hg hlt) (hs.grown hg hlt) fun q hq => ih q hq rfl hg hlt
end
def OpF.rowL (f : OpF) (d a : Sl) (ks : List Sl) (i s : Sl) : List Value := [.int .i32 f.t, .string f.p, d.v, a.v, .int .i32 f.fl, .int .i32 f.ve, .bool f.wa, .int .i64 f.ct, .int .i64 f.by_, .int .i64 f.tl, .int .i64 f.zx] ++ (ks.map Sl.v ++ [.int .i32 f.to, i.v, s.v])
section
variable {f : OpF} {d a d' a' k' i s i' s' : Sl} {ks : List Sl}
theorem rowL_eq (k0 k1 k2 k3 k4 : Sl) : f.row d a k0 k1 k2 k3 k4 i s = f.rowL d a [k0, k1, k2, k3, k4] i s := rfl
theorem list5 {α : Type} {xs : List α} (h : xs.length = 5) : ∃ a0 a1 a2 a3 a4, xs = [a0, a1, a2, a3, a4] := by
 match xs, h with
 | [a0, a1, a2, a3, a4], _ => exact ⟨_, _, _, _, _, rfl⟩
theorem rowL_len (h : ks.length = 5) : (f.rowL d a ks i s).length = 19 := by
 obtain ⟨_, _, _, _, _, rfl⟩ := list5 h
 rfl
theorem rowL_d : (f.rowL d a ks i s).take 2 ++ [d'.v] ++ (f.rowL d a ks i s).drop 3 = f.rowL d' a ks i s := rfl
theorem rowL_a : (f.rowL d a ks i s).take 3 ++ [a'.v] ++ (f.rowL d a ks i s).drop 4 = f.rowL d a' ks i s := rfl
theorem rowL_i (h : ks.length = 5) : (f.rowL d a ks i s).take 17 ++ [i'.v] ++ (f.rowL d a ks i s).drop 18 = f.rowL d a ks i' s := by
 obtain ⟨_, _, _, _, _, rfl⟩ := list5 h
 rfl
theorem rowL_s (h : ks.length = 5) : (f.rowL d a ks i s).take 18 ++ [s'.v] ++ (f.rowL d a ks i s).drop 19 = f.rowL d a ks i s' := by
 obtain ⟨_, _, _, _, _, rfl⟩ := list5 h
 rfl
theorem rowL_k (h : ks.length = 5) {j : Nat} (hj : j < 5) : (f.rowL d a ks i s).take (11 + j) ++ [k'.v] ++ (f.rowL d a ks i s).drop (11 + j + 1) = f.rowL d a (ks.set j k') i s := by
 obtain ⟨_, _, _, _, _, rfl⟩ := list5 h
 rcases (by omega : j = 0 ∨ j = 1 ∨ j = 2 ∨ j = 3 ∨ j = 4) with rfl | rfl | rfl | rfl | rfl <;> rfl
theorem rowL_get (h : ks.length = 5) {j : Nat} (hj : j < ks.length) : (f.rowL d a ks i s).toArray[11 + j]? = some (ks[j]).v := by
 obtain ⟨_, _, _, _, _, rfl⟩ := list5 h
 simp at hj
 rcases (by omega : j = 0 ∨ j = 1 ∨ j = 2 ∨ j = 3 ∨ j = 4) with rfl | rfl | rfl | rfl | rfl <;> rfl
end
structure KSt (w : World) (f : OpF) (d a : Sl) (ks : List Sl) (i s : Sl) (W : World) : Prop where
 blk : Blk W w.heap.size 29 (f.rowL d a ks i s).toArray
 res : ∃ zr, Blk W (w.heap.size + 1) 29 zr ∧ zr.size = 19
 below : Below w.heap.size w W
 size : w.heap.size + 2 ≤ W.heap.size
 len : ks.length = 5
section
variable {w W W' : World} {f : OpF} {d a d' a' k' i s i' s' : Sl} {ks : List Sl} {cs : Array Value} {g : Nat}
theorem KSt.later (h : KSt w f d a ks i s W) (hb : Below W.heap.size W W') : KSt w f d a ks i s W' := by
 obtain ⟨zr, h1, h2⟩ := h.res
 exact ⟨h.blk.below hb h.blk.lt, ⟨zr, h1.below hb h1.lt, h2⟩, h.below.trans (hb.mono h.below.size), Nat.le_trans h.size hb.size, h.len⟩
theorem KSt.put (h : KSt w f d a ks i s W) {ks' : List Sl} (hB : Blk W' w.heap.size 29 cs) (hg : W.grownBy W' (some w.heap.size)) (e : cs.toList = f.rowL d' a' ks' i' s') (hl : ks'.length = 5) : KSt w f d' a' ks' i' s' W' := by
 obtain ⟨zr, h1, h2⟩ := h.res
 have e' : cs = (f.rowL d' a' ks' i' s').toArray := by rw [← e]
 exact ⟨e' ▸ hB, ⟨zr, h1.grown hg (by simp), h2⟩, h.below.grown hg (by have := h.size; omega) (fun k hk => by injection hk with hk; omega), Nat.le_trans h.size hg.size, hl⟩
theorem KSt.far (h : KSt w f d a ks i s W) (hg : W.grownBy W' (some g)) (hlt : w.heap.size + 2 ≤ g) : KSt w f d a ks i s W' := by
 obtain ⟨zr, h1, h2⟩ := h.res
 exact ⟨h.blk.grown hg (by simp; omega), ⟨zr, h1.grown hg (by simp; omega), h2⟩, h.below.grown hg (by have := h.size; omega) (fun k hk => by injection hk with hk; omega), Nat.le_trans h.size hg.size, h.len⟩
theorem KSt.c2 (h : KSt w f d a ks i s W) : W.cell? ⟨w.heap.size, 2, none⟩ = some (.slice d.A d.n d.c) := (h.blk.cell 2).trans rfl
theorem KSt.c3 (h : KSt w f d a ks i s W) : W.cell? ⟨w.heap.size, 3, none⟩ = some (.slice a.A a.n a.c) := (h.blk.cell 3).trans rfl
theorem KSt.c17 (h : KSt w f d a ks i s W) : W.cell? ⟨w.heap.size, 17, none⟩ = some (.slice i.A i.n i.c) := by
 obtain ⟨_, _, _, _, _, rfl⟩ := list5 h.len
 exact (h.blk.cell 17).trans rfl
theorem KSt.c18 (h : KSt w f d a ks i s W) : W.cell? ⟨w.heap.size, 18, none⟩ = some (.slice s.A s.n s.c) := by
 obtain ⟨_, _, _, _, _, rfl⟩ := list5 h.len
 exact (h.blk.cell 18).trans rfl
theorem KSt.ck (h : KSt w f d a ks i s W) {j : Nat} (hj : j < ks.length) : W.cell? ⟨w.heap.size, 11 + j, none⟩ = some (ks[j]).v := (h.blk.cell (11 + j)).trans (rowL_get h.len hj)
theorem KSt.asize (h : KSt w f d a ks i s W) : (f.rowL d a ks i s).toArray.size = 19 := by rw [zO, rowL_len h.len]
end
theorem rows_set : ∀ (R : List (OpC × List Value)) (j : Nat) (q : OpC × List Value), (∀ r ∈ R, r.2.length = 19) → q.2.length = 19 → j < R.length →
 (R.flatMap Prod.snd).take (j * 19) ++ q.2 ++ (R.flatMap Prod.snd).drop (j * 19 + 19) = (R.set j q).flatMap Prod.snd
 | [], j, _, _, _, h => by simp at h
 | r :: R, 0, q, hR, hq, _ => by
   have hr := hR r (by simp)
   rw [zA, List.flatMap_cons, List.flatMap_cons, Nat.zero_mul, List.take_zero, List.nil_append, Nat.zero_add, ← hr, List.drop_left]
 | r :: R, j + 1, q, hR, hq, hj => by
   have hr := hR r (by simp)
   have ih := rows_set R j q (fun x hx => hR x (by simp [hx])) hq (by simpa using hj)
   rw [zB, List.flatMap_cons, List.flatMap_cons, show (j + 1) * 19 = r.2.length + j * 19 by omega, List.take_length_add_append, show r.2.length + j * 19 + 19 = r.2.length + (j * 19 + 19) by omega, List.drop_length_add_append, zL, zL, ← ih]
   simp [zL]
end Go.Proofs.YtpjjnmdfgcfnmaaGreatDoor
