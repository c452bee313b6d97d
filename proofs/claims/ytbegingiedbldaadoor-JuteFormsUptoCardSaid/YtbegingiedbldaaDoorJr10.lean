/- Read: what do reads; All. -/
import Derived.Test.YtbegingiedbldaaDoorJr9
namespace Go.Proofs.YtbegingiedbldaaDoor
open Go.RowKit

theorem do_ne (F : FuncId) (first cap : Array Value) (w : World) : (binOp .eql 35 (.func (.func F) first cap) .nilFunc).run Tryd.prog w = .ok (.bool false) w := by kernel_rfl

/-- the place and the error that Read hands back -/
def rAt : Nat ⊕ (Int × Nat) → Nat
  | .inl q => q
  | .inr (_, q) => q
def rE : Nat ⊕ (Int × Nat) → Int
  | .inl _ => 0
  | .inr (e, _) => e

/-- behind the function that Read calls: it has returned, or given up by its reader; what it says of the world; it has turned no block but those of X -/
def Did (B : Nat → Prop) (R c : Nat) (A : Option Addr) (l : List UInt8) (X : List Nat) (P : World → Prop) (r : Nat ⊕ (Int × Nat)) (W : World) (e : Ending) (W' : World) : Prop :=
  match r with
  | .inl q => (∃ v, e = .returned v) ∧ P W' ∧ Kp (R :: X) W W' ∧ Rdr W' B R A c l q
  | .inr (er, q) => e = .panicked (fails R er) ∧ P W' ∧ Kp (R :: X) W W' ∧ Rdr W' B R A c l q

set_option maxRecDepth 100000 in
set_option maxHeartbeats 1000000 in
theorem read_any (B : Nat → Prop) (c n : Nat) (A : Option Addr) (l : List UInt8) (F : FuncId) (first cap : Array Value) (X : List Nat) (P : World → Prop) (r : Nat ⊕ (Int × Nat)) (w : World)
    (hr : Reads w w.heap.size 1 A n (bcells l)) (hnc : n ≤ c) (hn : n ≤ 140737488355328) (hnil : A = none → c = 0) (hB : ∀ x, B x → x < w.heap.size) (hT : Lib.Utf8Tabs 0 1 w) (hg : B 0 ∧ B 1) (hmine : 0 < n → ∀ ad, A = some ad → B ad.block)
    (hX : ∀ x ∈ X, x < w.heap.size) (hent : ∀ (args : Array Value) (W : World), (callFunc F args).run Tryd.prog W = .ok (.enter F args) W)
    (hdo : ∀ W, Kp [] w W → W.heap.size = w.heap.size + 4 → Rdr W B (w.heap.size + 1 + 1) A c l 0 → Calls Tryd.prog F (first.push (.pointer (some ⟨w.heap.size + 1 + 1, 0, none⟩)) ++ cap) W fun e W' => Did B (w.heap.size + 1 + 1) c A l X P r W e W') :
    Calls Tryd.prog 11 #[.slice A n c, .func (.func F) first cap] w fun e w' => e = .returned (.tuple #[.int .i64 (rAt r), .int .i64 (rE r)]) ∧ Kp X w w' ∧
      (∃ W', P W' ∧ Kp [w.heap.size, w.heap.size + 1, w.heap.size + 1 + 1] W' w' ∧ Rdr W' B (w.heap.size + 1 + 1) A c l (rAt r) ∧ w.heap.size + 4 ≤ W'.heap.size) ∧ Blk w' (w.heap.size + 1 + 1) 93 #[.slice none 0 0, .int .i64 (rAt r), .bool true] := by
  have hl : l.length = n := by have := hr.1; rw [bcells_length] at this; omega
  subst hl
  have hmf : ∀ (fn : Fn) (first cap : Array Value) (w : World), (Instr.makeFunc fn first cap).run Tryd.prog w = .ok (.func fn first cap) w := fun _ _ _ _ => rfl
  have hne := do_ne F first cap
  obtain ⟨w4, hw4⟩ : ∃ w4, (((w.alloc (.cells #[.int .i64 0] 3)).alloc (.cells #[.int .i64 0] 32)).alloc (.cells #[.slice A l.length c, .int .i64 0, .bool false] 93)).alloc (.cells #[.pointer (some ⟨w.heap.size + 1 + 1, 0, none⟩)] 29) = w4 := ⟨_, rfl⟩
  have hk4 : Kp [] w w4 := by
    rw [← hw4]
    exact (((Kp.alloc _).trans (Kp.alloc _)).trans (Kp.alloc _)).trans (Kp.alloc _)
  have hz4 : w4.heap.size = w.heap.size + 4 := by rw [← hw4]; simp
  have b0 : Blk w4 w.heap.size 3 #[.int .i64 0] := by rw [← hw4]; exact (((Blk.new' rfl).alloc _).alloc _).alloc _
  have b1 : Blk w4 (w.heap.size + 1) 32 #[.int .i64 0] := by rw [← hw4]; exact ((Blk.new' (by simp)).alloc _).alloc _
  have b2 : Blk w4 (w.heap.size + 1 + 1) 93 #[.slice A l.length c, .int .i64 0, .bool false] := by rw [← hw4]; exact (Blk.new' (by simp)).alloc _
  have b3 : Blk w4 (w.heap.size + 1 + 1 + 1) 29 #[.pointer (some ⟨w.heap.size + 1 + 1, 0, none⟩)] := by rw [← hw4]; exact Blk.new' (by simp)
  have rd4 : Rdr w4 B (w.heap.size + 1 + 1) A c l 0 := ⟨b2, reads_off hr hk4 (fun _ _ _ h => by cases h), hnc, Nat.zero_le _, (fun x hx => by have := hB x hx; omega), hn, hnil, hT.kp hk4 ⟨(fun h => by cases h), (fun h => by cases h)⟩ ⟨hB _ hg.1, hB _ hg.2⟩, hg, ⟨by have := hB _ hg.1; omega, by have := hB _ hg.2; omega⟩, hmine⟩
  have HDO := Lib.hid (hdo w4 hk4 hz4 rd4)
  have c3 : w4.cell? ⟨w.heap.size + 1 + 1 + 1, 0, none⟩ = some (.pointer (some ⟨w.heap.size + 1 + 1, 0, none⟩)) := by rw [b3.cell 0]; rfl
  have HB0 := Lib.hid b0
  have HB1 := Lib.hid b1
  have HB3 := Lib.hid b3
  have HK4 := Lib.hid hk4
  have HZ4 := Lib.hid hz4
  have HX := Lib.hid (show ∀ x, x ∈ (w.heap.size + 1 + 1) :: X → x < w.heap.size ∨ x = w.heap.size + 1 + 1 from fun x hx => by
    rcases List.mem_cons.1 hx with h | h
    · exact .inr h
    · exact .inl (hX x h))
  clear b0 b1 b2 b3 hk4 hz4 rd4 hdo hX hT hr hnc hn hnil hg hB hmine
  rcases r with q | ⟨er, q⟩
  · go_enter_defers Tryd.func11, Tryd.ntmps11
    go_wp2_with (with_reducible refine (HDO.out).mono ?_
                 rintro e W' ⟨⟨v, rfl⟩, hp, hk, hR⟩
                 have B0 : Blk W' w.heap.size 3 #[.int .i64 0] := HB0.out.kp hk (fun hx => by have := HX.out _ hx; omega)
                 have B1 : Blk W' (w.heap.size + 1) 32 #[.int .i64 0] := HB1.out.kp hk (fun hx => by have := HX.out _ hx; omega)
                 have B3 : Blk W' (w.heap.size + 1 + 1 + 1) 29 #[.pointer (some ⟨w.heap.size + 1 + 1, 0, none⟩)] := HB3.out.kp hk (fun hx => by have := HX.out _ hx; omega)
                 have c3' : W'.cell? ⟨w.heap.size + 1 + 1 + 1, 0, none⟩ = some (.pointer (some ⟨w.heap.size + 1 + 1, 0, none⟩)) := (by rw [B3.cell 0]; rfl)
                 have c0' : W'.cell? ⟨w.heap.size, 0, none⟩ = some (.int .i64 0) := (by rw [B0.cell 0]; rfl)
                 have c1' : W'.cell? ⟨w.heap.size + 1, 0, none⟩ = some (.int .i64 0) := (by rw [B1.cell 0]; rfl)
                 have f0' := B0.frozen 0
                 have f1' := B1.frozen 0
                 obtain ⟨_, cR1, _, _⟩ := hR.cells
                 have HP := Lib.hid hp
                 have HKW := Lib.hid hk
                 have HR := Lib.hid hR
                 have HB0' := Lib.hid B0
                 have HB1' := Lib.hid B1
                 have HB3' := Lib.hid B3
                 clear hp hk hR B0 B1 B3)
    obtain ⟨w5, hw5⟩ : ∃ w5, (W'.setCell ⟨w.heap.size, 0, none⟩ (.int .i64 q)).setCell ⟨w.heap.size + 1, 0, none⟩ (.int .i64 0) = w5 := ⟨_, rfl⟩
    have K5 : Kp [w.heap.size, w.heap.size + 1] W' w5 := by
      rw [← hw5]
      exact (Kp.setCell ⟨w.heap.size, 0, none⟩ _).to (Kp.setCell ⟨w.heap.size + 1, 0, none⟩ _) (fun x hx _ => by simp at hx; simp [hx]) (fun x hx _ => by simp at hx; simp [hx])
    have D0 : Blk w5 w.heap.size 3 #[.int .i64 q] := by rw [← hw5]; exact (HB0'.out.set_ 0 _).far (by simp) _
    have D1 : Blk w5 (w.heap.size + 1) 32 #[.int .i64 0] := by rw [← hw5]; exact (HB1'.out.far (by simp) _).set_ 0 _
    have D3 := HB3'.out.kp K5 (by simp; omega)
    have R5 := HR.out.blk.kp K5 (by simp; omega)
    rw [hw5]
    refine leaves_cons (f := 47) (args := #[.pointer (some ⟨w.heap.size + 1 + 1 + 1, 0, none⟩), .pointer (some ⟨w.heap.size, 0, none⟩), .pointer (some ⟨w.heap.size + 1, 0, none⟩)]) (by simp) (by simp [go_sem]) ?_
    refine (catch_idle (w.heap.size + 1 + 1) (w.heap.size + 1 + 1 + 1) w.heap.size (w.heap.size + 1) A l.length c q w5 R5 (by rw [D3.cell 0]; rfl) (by omega)).mono ?_
    rintro e u' w'' ⟨rfl, rfl, hw6⟩
    have K6 : Kp [w.heap.size + 1 + 1] w5 w'' := by
      rw [hw6]
      exact (Kp.setCell ⟨w.heap.size + 1 + 1, 2, none⟩ _).to (Kp.setCell ⟨w.heap.size + 1 + 1, 0, none⟩ _) (fun x hx _ => hx) (fun x hx _ => hx)
    have R6 : Blk w'' (w.heap.size + 1 + 1) 93 #[.slice none 0 0, .int .i64 q, .bool true] := by rw [hw6]; exact (R5.set_ 2 _).set_ 0 _
    have e0 : w''.cell? ⟨w.heap.size, 0, none⟩ = some (.int .i64 q) := by rw [(D0.kp K6 (by simp; omega)).cell 0]; rfl
    have e1 : w''.cell? ⟨w.heap.size + 1, 0, none⟩ = some (.int .i64 0) := by rw [(D1.kp K6 (by simp)).cell 0]; rfl
    have KA : Kp [w.heap.size, w.heap.size + 1, w.heap.size + 1 + 1] W' w'' := K5.to K6 (fun x hx _ => by simp at hx; rcases hx with rfl | rfl <;> simp) (fun x hx _ => by simp at hx; simp [hx])
    have KX : Kp X w w'' := (HK4.out.to HKW.out (Z := X) (fun _ h => by cases h) (fun x hx hl => by
      rcases List.mem_cons.1 hx with h | h
      · omega
      · exact h)).to KA (fun _ h _ => h) (fun x hx hl => by simp at hx; omega)
    clear hw6 hw5
    exact ⟨_, by simp [settle, results, Tryd.results11, go_sem, e0, e1, rAt, rE], rfl, KX, ⟨W', HP.out, KA, HR.out, by have := HKW.out.size; have := HZ4.out; omega⟩, R6⟩
  · go_enter_defers Tryd.func11, Tryd.ntmps11
    go_wp2_with (with_reducible refine (HDO.out).mono ?_
                 rintro e W' ⟨rfl, hp, hk, hR⟩
                 have HP := Lib.hid hp
                 have HKW := Lib.hid hk
                 have HR := Lib.hid hR
                 clear hp hk hR)
    have hk := HKW.out
    have B0 : Blk W' w.heap.size 3 #[.int .i64 0] := HB0.out.kp hk (fun hx => by have := HX.out _ hx; omega)
    have B1 : Blk W' (w.heap.size + 1) 32 #[.int .i64 0] := HB1.out.kp hk (fun hx => by have := HX.out _ hx; omega)
    have B3 : Blk W' (w.heap.size + 1 + 1 + 1) 29 #[.pointer (some ⟨w.heap.size + 1 + 1, 0, none⟩)] := HB3.out.kp hk (fun hx => by have := HX.out _ hx; omega)
    refine leaves_cons (f := 47) (args := #[.pointer (some ⟨w.heap.size + 1 + 1 + 1, 0, none⟩), .pointer (some ⟨w.heap.size, 0, none⟩), .pointer (some ⟨w.heap.size + 1, 0, none⟩)]) (by simp) (by simp [go_sem]) ?_
    refine (catch_fail (w.heap.size + 1 + 1) (w.heap.size + 1 + 1 + 1) w.heap.size (w.heap.size + 1) A l.length c q er 0 0 W' HR.out.blk (by rw [B3.cell 0]; rfl) (by omega) B0 B1 (by omega) (by omega) (by omega) (by omega) (by omega) B3.lt).mono ?_
    rintro e u' w'' ⟨rfl, rfl, KA', R6, e0, e1⟩
    have KA : Kp [w.heap.size, w.heap.size + 1, w.heap.size + 1 + 1] W' w'' := KA'.mono (fun x hx _ => by simp at hx ⊢; omega)
    have KX : Kp X w w'' := (HK4.out.to HKW.out (Z := X) (fun _ h => by cases h) (fun x hx hl => by
      rcases List.mem_cons.1 hx with h | h
      · omega
      · exact h)).to KA (fun _ h _ => h) (fun x hx hl => by simp at hx; omega)
    clear KA'
    exact ⟨_, by simp [settle, results, Tryd.results11, go_sem, e0, e1, rAt, rE], rfl, KX, ⟨W', HP.out, KA, HR.out, by have := HKW.out.size; have := HZ4.out; omega⟩, R6⟩

/-- what All makes of it -/
def rAllE (l : List UInt8) (r : Nat ⊕ (Int × Nat)) : Int := if rE r = 0 ∧ rAt r < l.length then 21 else rE r

set_option maxRecDepth 100000 in
set_option maxHeartbeats 1000000 in
theorem all_any (B : Nat → Prop) (c n : Nat) (A : Option Addr) (l : List UInt8) (F : FuncId) (first cap : Array Value) (X : List Nat) (P : World → Prop) (r : Nat ⊕ (Int × Nat)) (w : World)
    (hr : Reads w w.heap.size 1 A n (bcells l)) (hnc : n ≤ c) (hn : n ≤ 140737488355328) (hnil : A = none → c = 0) (hB : ∀ x, B x → x < w.heap.size) (hT : Lib.Utf8Tabs 0 1 w) (hg : B 0 ∧ B 1) (hmine : 0 < n → ∀ ad, A = some ad → B ad.block)
    (hX : ∀ x ∈ X, x < w.heap.size) (hent : ∀ (args : Array Value) (W : World), (callFunc F args).run Tryd.prog W = .ok (.enter F args) W)
    (hdo : ∀ W, Kp [] w W → W.heap.size = w.heap.size + 4 → Rdr W B (w.heap.size + 1 + 1) A c l 0 → Calls Tryd.prog F (first.push (.pointer (some ⟨w.heap.size + 1 + 1, 0, none⟩)) ++ cap) W fun e W' => Did B (w.heap.size + 1 + 1) c A l X P r W e W') :
    Calls Tryd.prog 18 #[.slice A n c, .func (.func F) first cap] w fun e w' => e = .returned (.tuple #[.int .i64 (rAt r), .int .i64 (rAllE l r)]) ∧ Kp X w w' ∧
      (∃ W', P W' ∧ Kp [w.heap.size, w.heap.size + 1, w.heap.size + 1 + 1] W' w' ∧ Rdr W' B (w.heap.size + 1 + 1) A c l (rAt r) ∧ w.heap.size + 4 ≤ W'.heap.size) ∧ Blk w' (w.heap.size + 1 + 1) 93 #[.slice none 0 0, .int .i64 (rAt r), .bool true] := by
  have hl : l.length = n := by have := hr.1; rw [bcells_length] at this; omega
  subst hl
  have HR := Lib.hid (read_any B c l.length A l F first cap X P r w hr hnc hn hnil hB hT hg hmine hX hent hdo)
  clear hr hnc hnil hB hT hg hmine hX hent hdo
  generalize hE : rE r = er at HR
  generalize hA : rAt r = q at HR
  have hAll : rAllE l r = if er = 0 ∧ q < l.length then 21 else er := by unfold rAllE; rw [hE, hA]
  rw [hAll]
  clear hAll hE hA
  by_cases h0 : er = 0
  · by_cases h1 : q < l.length
    · rw [if_pos ⟨h0, h1⟩]
      have h0b : (er == 0) = true := by simp [h0]
      clear h0
      go_enter Tryd.func18, Tryd.ntmps18
      go_wp2_with (go_at_call 11; refine (HR.out).mono ?_; rintro e w1 ⟨rfl, hq⟩; have HQ := Lib.hid hq; clear hq)
      go_ret2
      exact ⟨rfl, HQ.out⟩
    · rw [if_neg (fun h => h1 h.2)]
      have h0b : (er == 0) = true := by simp [h0]
      clear h0
      go_enter Tryd.func18, Tryd.ntmps18
      go_wp2_with (go_at_call 11; refine (HR.out).mono ?_; rintro e w1 ⟨rfl, hq⟩; have HQ := Lib.hid hq; clear hq)
      go_ret2
      exact ⟨rfl, HQ.out⟩
  · rw [if_neg (fun h => h0 h.1)]
    have h0b : (er == 0) = false := by simp [h0]
    clear h0
    go_enter Tryd.func18, Tryd.ntmps18
    go_wp2_with (go_at_call 11; refine (HR.out).mono ?_; rintro e w1 ⟨rfl, hq⟩; have HQ := Lib.hid hq; clear hq)
    go_ret2
    exact ⟨rfl, HQ.out⟩
end Go.Proofs.YtbegingiedbldaaDoor
