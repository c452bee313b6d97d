/- Bytes as an event: the program's DecodeEvent, behind the function that reads. (printed by gen_v2b.py) -/
import Derived.Test.YtnbaajplelchjaaGreatDoorEv2
import Derived.Test.YtnbaajplelchjaaGreatDoorJenv
set_option linter.unusedVariables false
set_option linter.unusedSimpArgs false
namespace Go.Proofs.YtnbaajplelchjaaGreatDoor
open Go.RowKit

set_option maxRecDepth 100000 in
theorem decEvF_enters (args : Array Value) (W : World) : (callFunc 64 args).run Tryz.prog W = .ok (.enter 64 args) W := by
  have hn : (Tryz.f64.name == "runtime.NumGoroutine") = false := by as_aux_lemma => kernel_rfl
  have hb : Tryz.f64.body.isNone = false := by as_aux_lemma => kernel_rfl
  have hn' : ¬ Tryz.f64.name = "runtime.NumGoroutine" := by simpa using hn
  have hb' : ¬ Tryz.f64.body = none := fun h => by rw [h] at hb; cases hb
  simp [callFunc, Tryz.func64, hn', hb']

/-- where a reading of all bytes ends -/
def allAt {α : Type} (r : (α × Nat) ⊕ (Int × Nat)) : Int := match r with | .inl (_, q) => q | .inr (_, q) => q
theorem rAt_of {α : Type} (r : (α × Nat) ⊕ (Int × Nat)) : ((rAt (rOf r) : Nat) : Int) = allAt r := by rcases r with ⟨x, q⟩ | ⟨e, q⟩ <;> rfl

theorem allEv_any (c n nb b0 : Nat) (A : Option Addr) (l : List UInt8) (w : World) (hr : Reads w b0 1 A n (bcells l)) (hnc : n ≤ c) (hn : n ≤ 140737488355328) (hnil : A = none → c = 0) (hE : Env w)
    (hb0 : b0 ≤ nb) (hg : 0 < b0 ∧ 1 < b0) (hN : Blk w nb 55 #[.int .i64 0, .int .i32 0, .string ⟨#[]⟩]) :
    Calls Tryz.prog 47 #[.slice A n c, .func (.func 64) #[] #[.pointer (some ⟨nb, 0, none⟩)]] w fun e w' => e = .returned (.tuple #[.int .i64 (allAt (gEv l 0)), .int .i64 (allE l (gEv l 0))]) ∧ Kp [nb] w w' ∧ ∀ x q, gEv l 0 = .inl (x, q) → EvAt w' nb x := by
  have hnl := hN.lt
  refine (all_any (fun x => x < b0) c n A l 64 #[] #[.pointer (some ⟨nb, 0, none⟩)] [nb] (fun W => ∀ x q, gEv l 0 = .inl (x, q) → EvAt W nb x) (rOf (gEv l 0)) w (hr.more (by omega)) hnc hn hnil (fun x hx => by omega) hE.tab hg
    (fun h ad e => by obtain ⟨ad', e', hb, _⟩ := hr.2 h; rw [e] at e'; cases e'; exact hb) (fun x hx => by simp at hx; omega) decEvF_enters (fun W hk hz hR => ?_)).mono ?_
  · refine (decodeEvF_any (fun x => x < b0) (w.heap.size + 1 + 1) c 0 nb A l W ⟨hR, hN.kp hk (by simp), Kp.refl _ _, by omega, by omega, by omega⟩).mono fun e w' h => ?_
    unfold Did
    rcases hres : gEv l 0 with ⟨x, q⟩ | ⟨er, q⟩
    · rw [hres] at h
      obtain ⟨h1, h2, h3, h4⟩ := h
      exact ⟨h1, fun x' q' hx => by cases hx; exact h2, h3, h4⟩
    · rw [hres] at h
      obtain ⟨h1, h3, h4⟩ := h
      exact ⟨h1, (fun x' q' hx => by cases hx), h3, h4⟩
  · rintro e w' ⟨rfl, hk, ⟨W', hP, hk2, _, hz⟩, _⟩
    refine ⟨by rw [rAllE_of sure_ev, rAt_of], hk, fun x q hx => ?_⟩
    exact (hP x q hx).kp hk2 (by simp; omega)

theorem results_cell_tmp2 {P : Program} {fn : Func} {p q r : Tmp} {ty : TypeId} (h : fn.results = #[.cell p ty, .tmp q, .tmp r]) (tmps : Array Value) (w : World) (g : Nat) (t : TypeId) (cs : Array Value) (d : TypeDesc) (u x : Value)
    (hp : tmps.getD p undef = .pointer (some ⟨g, 0, none⟩)) (hq : tmps.getD q undef = u) (hr : tmps.getD r undef = x) (hg : Blk w g t cs) (hu : P.underlying ty = some d) (hd : (match d with | .struct _ | .array _ _ => true | _ => false) = true) (hi : (P.info? ty).map (·.size) = some cs.size) :
    (results fn tmps).run P w = .ok (.tuple #[.agg cs, u, x]) w := by
  have hp' : tmps[p]?.getD undef = .pointer (some ⟨g, 0, none⟩) := by simpa using hp
  have hq' : tmps[q]?.getD undef = u := by simpa using hq
  have hr' : tmps[r]?.getD undef = x := by simpa using hr
  simp [results, h, hp', hq', hr', asAddr, run_loadVar_row w g t ty cs (0, 0) d hg hu hd hi]

/-- behind DecodeEvent -/
def DecEv (l : List UInt8) (w : World) (e : Ending) (w' : World) : Prop := Below w.heap.size w w' ∧ match decEv l with
  | .inl (q, E) => E ≠ 0 ∧ e = .returned (.tuple #[.agg #[.int .i64 0, .int .i32 0, .string ⟨#[]⟩], .int .i64 q, .int .i64 E])
  | .inr (k, p, s) => e = .returned (.tuple #[.agg #[.int .i64 s, .int .i32 k, .string ⟨p.toArray⟩], .int .i64 0, .int .i64 0])
theorem decEv_no {l : List UInt8} (h : allE l (gEv l 0) ≠ 0) : decEv l = .inl (allAt (gEv l 0), allE l (gEv l 0)) := by
  unfold decEv
  unfold allE at h ⊢
  unfold allAt
  rcases hr : gEv l 0 with ⟨x, q⟩ | ⟨er, q⟩
  · rw [hr] at h
    dsimp only at h ⊢
    by_cases hq : q < l.length
    · rw [if_pos hq, if_pos hq]
    · rw [if_neg hq] at h; exact absurd rfl h
  · rfl
theorem decEv_yes {l : List UInt8} (h : allE l (gEv l 0) = 0) : ∃ x q, gEv l 0 = .inl (x, q) ∧ decEv l = .inr x := by
  unfold decEv
  unfold allE at h
  rcases hr : gEv l 0 with ⟨x, q⟩ | ⟨er, q⟩
  · rw [hr] at h
    dsimp only at h ⊢
    by_cases hq : q < l.length
    · rw [if_pos hq] at h; cases h
    · exact ⟨x, q, rfl, by rw [if_neg hq]⟩
  · rw [hr] at h
    exact absurd h (sure_ev _ _ _ _ hr)

set_option maxRecDepth 100000 in
set_option maxHeartbeats 4000000 in
theorem decodeEvent_any (c n : Nat) (A : Option Addr) (l : List UInt8) (w : World) (hr : Reads w w.heap.size 1 A n (bcells l)) (hnc : n ≤ c) (hn : n ≤ 140737488355328) (hnil : A = none → c = 0) (hE : Env w) :
    Calls Tryz.prog 21 #[.slice A n c] w fun e w' => DecEv l w e w' := by
  obtain ⟨w2, hw2⟩ : ∃ w2, (w.alloc (.cells #[.int .i64 0, .int .i32 0, .string ⟨#[]⟩] 55)).alloc (.cells #[.int .i64 0, .int .i32 0, .string ⟨#[]⟩] 55) = w2 := ⟨_, rfl⟩
  have hz2 : w2.heap.size = w.heap.size + 2 := by rw [← hw2]; simp
  have hb2 : Below w.heap.size w w2 := by rw [← hw2]; exact ((Below.refl _ _).alloc (Nat.le_refl _) _).alloc (by simp) _
  have br : Blk w2 w.heap.size 55 #[.int .i64 0, .int .i32 0, .string ⟨#[]⟩] := by rw [← hw2]; exact (Blk.new _ _ _).alloc _
  have bn : Blk w2 (w.heap.size + 1) 55 #[.int .i64 0, .int .i32 0, .string ⟨#[]⟩] := by rw [← hw2]; exact Blk.new' (by simp)
  have hA := allEv_any c n (w.heap.size + 1) w.heap.size A l w2 (hr.below hb2) hnc hn hnil (hE.below hb2) (by omega) ⟨hE.g1, hE.g2⟩ bn
  have HB2 := Lib.hid hb2
  have HR := Lib.hid br
  have hmf : ∀ (fn : Fn) (first cap : Array Value) (w : World), (Instr.makeFunc fn first cap).run Tryz.prog w = .ok (.func fn first cap) w := fun _ _ _ _ => rfl
  clear hE hb2 br bn hr
  by_cases h0 : allE l (gEv l 0) = 0
  rotate_left
  · have HD := Lib.hid (decEv_no h0)
    obtain ⟨E, hEE⟩ : ∃ E, E = allE l (gEv l 0) := ⟨_, rfl⟩
    obtain ⟨q, hq⟩ : ∃ q, q = allAt (gEv l 0) := ⟨_, rfl⟩
    rw [← hEE, ← hq] at hA HD
    rw [← hEE] at h0
    have HA := Lib.hid hA
    have h1 : (E == 0) = false := by simp [h0]
    have h2 : (E != 0) = true := by simp [h0]
    have HNE := Lib.hid h0
    clear hA hEE h0 hq
    go_enter Tryz.func21, Tryz.ntmps21
    go_wp2_with (first
      | (go_at_call 47; refine HA.out.mono ?_; rintro e w3 ⟨rfl, hk, _⟩; have hR3 := HR.out.kp hk (by simp); have hb3 : Below w.heap.size w w3 := HB2.out.trans (hk.below (by simp) (by omega)); have HR3 := Lib.hid hR3; have HB3 := Lib.hid hb3; clear hk hR3 hb3)
      | (refine wpList_store_row rfl 55 (.tmp 2) (.tmp 16) rfl w.heap.size #[.int .i64 0, .int .i32 0, .string ⟨#[]⟩] rfl rfl 55 _ HR3.out (by rw [ev_size]; rfl) rfl (by simp [Value.oneCell']) ?_
         generalize hww : World.setRow _ _ _ = w4
         have HB4 : Hid (Below w.heap.size w w4) := by unfold Hid; rw [← hww]; exact below_setRow' HB3.out (Nat.le_refl _) _
         have HR4 : Hid (Blk w4 w.heap.size 55 #[.int .i64 0, .int .i32 0, .string ⟨#[]⟩]) := by unfold Hid; rw [← hww]; exact cells_setRow HR3.out
         clear hww))
    refine bodyPost_ret (results_cell_tmp2 rfl _ _ w.heap.size 55 #[.int .i64 0, .int .i32 0, .string ⟨#[]⟩] _ (.int .i64 q) (.int .i64 E) rfl rfl rfl HR4.out Tryz.underlying55 rfl (by rw [ev_size]; rfl)) rfl ?_
    refine ⟨HB4.out, ?_⟩
    rw [HD.out]
    exact ⟨HNE.out, rfl⟩
  · obtain ⟨⟨k, p, s⟩, q, hres, hd⟩ := decEv_yes h0
    rw [h0] at hA
    have hA' : Calls Tryz.prog 47 #[.slice A n c, .func (.func 64) #[] #[.pointer (some ⟨w.heap.size + 1, 0, none⟩)]] w2 fun e w' => e = .returned (.tuple #[.int .i64 (allAt (gEv l 0)), .int .i64 0]) ∧ Kp [w.heap.size + 1] w2 w' ∧ EvAt w' (w.heap.size + 1) (k, p, s) := hA.mono fun e w' ⟨h1, h2, h3⟩ => ⟨h1, h2, h3 _ _ hres⟩
    obtain ⟨q', hq⟩ : ∃ q, q = allAt (gEv l 0) := ⟨_, rfl⟩
    rw [← hq] at hA'
    have HA := Lib.hid hA'
    have HD := Lib.hid hd
    clear hA hA' h0 hres hq hd
    go_enter Tryz.func21, Tryz.ntmps21
    go_wp2_with (first
      | (go_at_call 47
         refine HA.out.mono ?_
         rintro e w3 ⟨rfl, hk, hb⟩
         have hR3 := HR.out.kp hk (by simp)
         have hb3 : Below w.heap.size w w3 := HB2.out.trans (hk.below (by simp) (by omega))
         have HR3 := Lib.hid hR3
         have HB3 := Lib.hid hb3
         have HX : Hid (Blk w3 (w.heap.size + 1) 55 #[.int .i64 s, .int .i32 k, .string ⟨p.toArray⟩]) := hb
         clear hk hR3 hb3 hb)
      | (refine wpList_load_row rfl 55 (.tmp 5) rfl (w.heap.size + 1) rfl 55 _ _ _ HX.out Tryz.underlying55 rfl (by rw [ev_size]; rfl) ?_)
      | (refine wpList_store_row rfl 55 (.tmp 2) (.tmp 19) rfl w.heap.size #[.int .i64 s, .int .i32 k, .string ⟨p.toArray⟩] rfl rfl 55 _ HR3.out (by rw [ev_size]; rfl) rfl (by simp [Value.oneCell']) ?_
         generalize hww : World.setRow _ _ _ = w4
         have HB4 : Hid (Below w.heap.size w w4) := by unfold Hid; rw [← hww]; exact below_setRow' HB3.out (Nat.le_refl _) _
         have HR4 : Hid (Blk w4 w.heap.size 55 #[.int .i64 s, .int .i32 k, .string ⟨p.toArray⟩]) := by unfold Hid; rw [← hww]; exact cells_setRow HR3.out
         clear hww))
    refine bodyPost_ret (results_cell_tmp2 rfl _ _ w.heap.size 55 #[.int .i64 s, .int .i32 k, .string ⟨p.toArray⟩] _ (.int .i64 0) (.int .i64 0) rfl rfl rfl HR4.out Tryz.underlying55 rfl (by rw [ev_size]; rfl)) rfl ?_
    refine ⟨HB4.out, ?_⟩
    rw [HD.out]
end Go.Proofs.YtnbaajplelchjaaGreatDoor
