/- A play of readings: what it holds; a number, a text more. -/
import Derived.Test.YtbegingiedbldaaDoorJr10
namespace Go.Proofs.YtbegingiedbldaaDoor
open Go.RowKit

/-- numbers as cells -/
def icells (L : List Int) : List Value := L.map fun z => .int .i64 z
theorem icells_length (L : List Int) : (icells L).length = L.length := by simp [icells]
theorem icells_one (L : List Int) : ∀ u ∈ icells L, u.oneCell' = true := by
  intro u hu
  obtain ⟨b, _, rfl⟩ := List.mem_map.1 hu
  rfl
theorem icells_append (L M : List Int) : icells (L ++ M) = icells L ++ icells M := by simp [icells]
theorem i64_info : (Tryd.prog.info? 2).map (fun i => (i.zero, i.size, i.bytes)) = some (some (.int .i64 0), 1, 8) := by kernel_rfl

/-- a play at block b: numbers and texts in rows of its own, which lie from base on -/
structure PlaySt (w : World) (base b : Nat) (S vN vT : Value) (N : List Int) (T : List (List UInt8)) (K : Value) (calls : Int) : Prop where
  blk : Blk w b 31 #[S, vN, vT, K, .int .i64 calls]
  nums : w.ownsRow base 2 1 vN N.length (icells N)
  txts : w.ownsRow base 9 1 vT T.length (scells (T.map bs))

section
variable {w w' w0 : World} {base b : Nat} {S vN vT : Value} {N : List Int} {T : List (List UInt8)} {K : Value} {calls : Int} {X : List Nat}
theorem PlaySt.kp (h : PlaySt w base b S vN vT N T K calls) (hk : Kp X w w') (hb : b ∉ X) (hX : ∀ x ∈ X, x < base) : PlaySt w' base b S vN vT N T K calls :=
  ⟨h.blk.kp hk hb, own_kp h.nums hk (fun x hx e => by have := (h.nums.lt x e).1; have := hX x hx; omega), own_kp h.txts hk (fun x hx e => by have := (h.txts.lt x e).1; have := hX x hx; omega)⟩
theorem PlaySt.later (h : PlaySt w base b S vN vT N T K calls) (hb : Below w.heap.size w w') : PlaySt w' base b S vN vT N T K calls := h.kp (Kp.of_below (X := []) hb) (fun h => by cases h) (fun _ h => by cases h)
/-- one of the rows and the play's block were written: of what was there at w0 no more than X -/
theorem step_kp {v : Value} {n size : Nat} {e : TypeId} {xs : List Value} (hk : Kp X w0 w) (hv : w.ownsRow base e size v n xs) (h0 : w0.heap.size ≤ base) (hb : b ∈ X ∨ w0.heap.size ≤ b) (h : Kp (b :: v.ownBlock.toList) w w') : Kp X w0 w' :=
  hk.to h (fun _ h _ => h) (fun x hx hl => by
    rcases List.mem_cons.1 hx with rfl | hx
    · rcases hb with hb | hb
      · exact hb
      · omega
    · have := (hv.lt x (by simpa using hx)).1
      omega)
end

set_option maxRecDepth 100000 in
set_option maxHeartbeats 400000 in
theorem number_any (base b : Nat) (S vN vT : Value) (N : List Int) (T : List (List UInt8)) (K : Value) (calls z : Int) (w : World) (h : PlaySt w base b S vN vT N T K calls) (hbase : base ≤ w.heap.size) (hsz : N.length + 1 ≤ 17592186044416) :
    Calls Tryd.prog 48 #[.pointer (some ⟨b, 0, none⟩), .int .i64 z] w fun e w' => e = .returned (.tuple #[]) ∧ ∃ vN', PlaySt w' base b S vN' vT (N ++ [z]) T K calls ∧ Kp (b :: vN.ownBlock.toList) w w' := by
  obtain ⟨i0, hi0, hz0, hz1, hz2⟩ := info_parts i64_info
  obtain ⟨hb, hn, ht⟩ := h
  have hl := hb.lt
  have hc : w.cell? ⟨b, 1, none⟩ = some vN := by rw [hb.cell 1]; rfl
  have hf := hb.frozen 1
  have HB := Lib.hid hb
  have HN := Lib.hid hn
  have HT := Lib.hid ht
  clear hb hn ht
  go_enter Tryd.func48, Tryd.ntmps48
  go_wp2_with (at_builtin; refine wpList_append_any _ rfl (.tmp 9) (.tmp 11) _ rfl base 2 i0 _ 1 8 Tryd.underlying25 hi0 hz0 hz1 hz2 rfl (by decide) vN N.length (icells N) rfl (HN.out.alloc _) (w.heap.size + 1) (some ⟨w.heap.size, 0, none⟩) 1 1 [.int .i64 z] rfl (reads_lit w 2 [_]) (by simp [Value.oneCell']) (by simp only [maxLen]; omega) (by omega) (by simp; omega) ?_
               intro v1 w1 hown1 hg1 hat1
               obtain ⟨A1, c1, rfl⟩ := slice_form hown1
               have hk1 : Kp (vN.ownBlock.toList) w w1 := (Kp.alloc (X := []) _).to (Kp.of_grown hg1) (fun _ h => by cases h) (fun x hx _ => hx)
               have hne : b ∉ vN.ownBlock.toList := fun hx => own_blk_ne HN.out HB.out (by decide) (by simpa using hx)
               have hb1 := HB.out.kp hk1 hne
               have hc1 : w1.cell? ⟨b, 1, none⟩ = some vN := (by rw [hb1.cell 1]; rfl)
               have hf1 := hb1.frozen 1
               have HB1 := Lib.hid hb1
               have HK1 := Lib.hid hk1
               have HO1 := Lib.hid hown1
               have HT1 := Lib.hid (own_kp HT.out hk1 (fun x hx e => by
                 have hx' : vN.ownBlock = some x := by simpa using hx
                 exact own_own_ne HN.out HT.out (by decide) x hx' e))
               clear hb1 hk1 hg1 hat1 hown1 hne hc hf)
  go_end0
  refine ⟨rfl, .slice A1 (N.length + 1) c1, ⟨HB1.out.set_ 1 _, ?_, own_set HT1.out HB1.out (by decide) 1 _⟩, HK1.out.to (Kp.setCell ⟨b, 1, none⟩ _) (fun x hx _ => List.mem_cons_of_mem _ hx) (fun x hx _ => by simp at hx; simp [hx])⟩
  rw [icells_append, List.length_append]
  exact own_set HO1.out HB1.out (by decide) 1 _

set_option maxRecDepth 100000 in
set_option maxHeartbeats 400000 in
theorem text_any (base b : Nat) (S vN vT : Value) (N : List Int) (T : List (List UInt8)) (K : Value) (calls : Int) (x : List UInt8) (w : World) (h : PlaySt w base b S vN vT N T K calls) (hbase : base ≤ w.heap.size) (hsz : T.length + 1 ≤ 8796093022208) :
    Calls Tryd.prog 49 #[.pointer (some ⟨b, 0, none⟩), .string ⟨x.toArray⟩] w fun e w' => e = .returned (.tuple #[]) ∧ ∃ vT', PlaySt w' base b S vN vT' N (T ++ [x]) K calls ∧ Kp (b :: vT.ownBlock.toList) w w' ∧ (vT'.ownBlock = vT.ownBlock ∨ ∃ y, vT'.ownBlock = some y ∧ w.heap.size ≤ y) := by
  obtain ⟨i0, hi0, hz0, hz1, hz2⟩ := info_parts str_info
  obtain ⟨hb, hn, ht⟩ := h
  have hl := hb.lt
  have hc : w.cell? ⟨b, 2, none⟩ = some vT := by rw [hb.cell 2]; rfl
  have hf := hb.frozen 2
  have HB := Lib.hid hb
  have HN := Lib.hid hn
  have HT := Lib.hid ht
  clear hb hn ht
  go_enter Tryd.func49, Tryd.ntmps49
  go_wp2_with (at_builtin; refine wpList_append_any _ rfl (.tmp 9) (.tmp 11) _ rfl base 9 i0 _ 1 16 Tryd.underlying26 hi0 hz0 hz1 hz2 rfl (by decide) vT T.length (scells (T.map bs)) rfl (HT.out.alloc _) (w.heap.size + 1) (some ⟨w.heap.size, 0, none⟩) 1 1 [.string ⟨x.toArray⟩] rfl (reads_lit w 9 [_]) (by simp [Value.oneCell']) (by simp only [maxLen]; omega) (by omega) (by simp; omega) ?_
               intro v1 w1 hown1 hg1 hat1
               obtain ⟨A1, c1, rfl⟩ := slice_form hown1
               have hk1 : Kp (vT.ownBlock.toList) w w1 := (Kp.alloc (X := []) _).to (Kp.of_grown hg1) (fun _ h => by cases h) (fun x hx _ => hx)
               have hne : b ∉ vT.ownBlock.toList := fun hx => own_blk_ne HT.out HB.out (by decide) (by simpa using hx)
               have hb1 := HB.out.kp hk1 hne
               have hc1 : w1.cell? ⟨b, 2, none⟩ = some vT := (by rw [hb1.cell 2]; rfl)
               have hf1 := hb1.frozen 2
               have HB1 := Lib.hid hb1
               have HA1 := Lib.hid hat1
               have HK1 := Lib.hid hk1
               have HO1 := Lib.hid hown1
               have HN1 := Lib.hid (own_kp HN.out hk1 (fun x hx e => by
                 have hx' : vT.ownBlock = some x := by simpa using hx
                 exact own_own_ne HT.out HN.out (by decide) x hx' e))
               clear hb1 hk1 hg1 hat1 hown1 hne hc hf)
  go_end0
  refine ⟨rfl, .slice A1 (T.length + 1) c1, ⟨HB1.out.set_ 2 _, own_set HN1.out HB1.out (by decide) 2 _, ?_⟩, HK1.out.to (Kp.setCell ⟨b, 2, none⟩ _) (fun x hx _ => List.mem_cons_of_mem _ hx) (fun x hx _ => by simp at hx; simp [hx]), ?_⟩
  · rw [List.map_append, scells_append, List.length_append]
    exact own_set HO1.out HB1.out (by decide) 2 _
  · rcases HA1.out with e | e
    · exact .inl e
    · exact .inr ⟨_, e, by simp⟩

section
variable {W w2 w3 : World} {B : Nat → Prop} {base b R c q : Nat} {S vN vT : Value} {N : List Int} {T : List (List UInt8)} {K : Value} {calls : Int} {A : Option Addr} {l : List UInt8}
theorem num_kp (hkp : Kp [R, b] W w2) (hp : PlaySt w2 W.heap.size b S vN vT N T K calls) (hr : Rdr w2 B R A c l q) (hk3 : Kp (b :: vN.ownBlock.toList) w2 w3) (hBb : ¬ B b) (hne : b ≠ R) (hRl : R < W.heap.size) : Kp [R, b] W w3 ∧ Rdr w3 B R A c l q :=
  ⟨step_kp hkp hp.nums (Nat.le_refl _) (.inl (by simp)) hk3, hr.kp hk3 (fun hx => by
    rcases List.mem_cons.1 hx with h | h
    · exact hne h.symm
    · have := (hp.nums.lt R (by simpa using h)).1; omega) (fun x hx => by
    rcases List.mem_cons.1 hx with h | h
    · rw [h]; exact hBb
    · exact hr.new (by have := (hp.nums.lt x (by simpa using h)).1; omega))⟩
theorem txt_kp (hkp : Kp [R, b] W w2) (hp : PlaySt w2 W.heap.size b S vN vT N T K calls) (hr : Rdr w2 B R A c l q) (hk3 : Kp (b :: vT.ownBlock.toList) w2 w3) (hBb : ¬ B b) (hne : b ≠ R) (hRl : R < W.heap.size) : Kp [R, b] W w3 ∧ Rdr w3 B R A c l q :=
  ⟨step_kp hkp hp.txts (Nat.le_refl _) (.inl (by simp)) hk3, hr.kp hk3 (fun hx => by
    rcases List.mem_cons.1 hx with h | h
    · exact hne h.symm
    · have := (hp.txts.lt R (by simpa using h)).1; omega) (fun x hx => by
    rcases List.mem_cons.1 hx with h | h
    · rw [h]; exact hBb
    · exact hr.new (by have := (hp.txts.lt x (by simpa using h)).1; omega))⟩
end

/-- a function with a body is entered -/
theorem enter_of {f : FuncId} {fn : Func} (hf : Tryd.prog.funcs[f]? = some fn) (hn : (fn.name == "runtime.NumGoroutine") = false) (hb : fn.body.isNone = false) (args : Array Value) (W : World) : (callFunc f args).run Tryd.prog W = .ok (.enter f args) W := by
  have hn' : ¬ fn.name = "runtime.NumGoroutine" := by simpa using hn
  have hb' : ¬ fn.body = none := by
    intro h
    rw [h] at hb
    cases hb
  simp [callFunc, hf, hn', hb']

set_option maxRecDepth 100000 in
set_option maxHeartbeats 400000 in
theorem get_any (B : Nat → Prop) (R c p gb : Nat) (A : Option Addr) (l : List UInt8) (most : Int) (w : World) (h : Rdr w B R A c l p) (hg : w.cell? ⟨gb, 0, none⟩ = some (.int .i64 most)) :
    Calls Tryd.prog 44 #[.pointer (some ⟨gb, 0, none⟩), .pointer (some ⟨R, 0, none⟩)] w fun e w' => Rend B R c A l vText (gText most l p) w e w' := by
  have HT := rText_any B R c p A l most w h
  clear h
  rcases hres : gText most l p with ⟨x, q⟩ | ⟨er, q⟩
  · rw [hres] at HT
    have HT := Lib.hid HT
    clear hres
    go_enter Tryd.func44, Tryd.ntmps44
    go_wp2_with (go_at_call 25; refine (HT.out).mono ?_; rintro e w2 ⟨⟨v, rfl, rfl⟩, hk, hR⟩; have HK := Lib.hid hk; have HR := Lib.hid hR; clear hk hR)
    go_ret
    exact Rend.yes rfl rfl HK.out HR.out
  · rw [hres] at HT
    have HT := Lib.hid HT
    clear hres
    go_enter Tryd.func44, Tryd.ntmps44
    go_wp2_with (go_at_call 25; refine (HT.out).mono ?_; rintro e w2 ⟨rfl, hk, hR⟩; have HK := Lib.hid hk; have HR := Lib.hid hR; clear hk hR)
    exact ⟨rfl, Rend.no rfl HK.out HR.out⟩

set_option maxRecDepth 100000 in
set_option maxHeartbeats 400000 in
theorem fail_zero (B : Nat → Prop) (R c p : Nat) (A : Option Addr) (l : List UInt8) (w : World) (h : Rdr w B R A c l p) :
    Calls Tryd.prog 42 #[.pointer (some ⟨R, 0, none⟩), .int .i64 0] w fun e w' => e = .returned (.tuple #[]) ∧ w = w' := by
  have H := Lib.hid h
  clear h
  go_enter Tryd.func42, Tryd.ntmps42
  go_wp2_with (go_at_call 52; refine (done_any B R c p A l w H.out).mono ?_; rintro e w2 ⟨rfl, rfl⟩)
  go_end0
  exact ⟨rfl, rfl⟩
end Go.Proofs.YtbegingiedbldaaDoor
