/- The law ReplyEvents: what its calls come to; the law; the arguments as they were read. -/
import Derived.Test.YtnbaajplelchjaaGreatDoorEv5
import Derived.Test.YtnbaajplelchjaaGreatDoorBase
import Derived.MakeChecks
import Derived.SizedLaws
import Derived.OpenShut
set_option linter.unusedVariables false
set_option linter.unusedSimpArgs false
namespace Go.Proofs.YtnbaajplelchjaaGreatDoor
open Go.ChangeShapes Go.WideShapes Go.ChangeAt Go.RowKit

theorem bs_data (p : List UInt8) : (bs p).data.toList = p := by simp [bs]
theorem bytes_eta (p : ByteArray) : (⟨p.data.toList.toArray⟩ : ByteArray) = p := by cases p; simp
theorem enc_no {s k : Int} {p : ByteArray} {v : Bool} {E : Int} {w w' : World} {e : Ending} (hE : E ≠ 0) (hx : evX k v p.size = E) (h : Below w.heap.size w w' ∧ ((evX k v p.size ≠ 0 ∧ e = .returned (.tuple #[.slice none 0 0, .int .i64 (evX k v p.size)])) ∨
       (evX k v p.size = 0 ∧ ∃ A n c, e = .returned (.tuple #[.slice A n c, .int .i64 0]) ∧ w'.ownsRow w.heap.size 5 1 (.slice A n c) n (bcells (evB k p.data.toList s))))) : e = .returned (.tuple #[.slice none 0 0, .int .i64 E]) ∧ Below w.heap.size w w' := by
  rw [hx] at h
  rcases h with ⟨hb, ⟨_, h⟩ | ⟨h, _⟩⟩
  · exact ⟨h, hb⟩
  · exact absurd h hE
theorem enc_yes {s k : Int} {p : ByteArray} {v : Bool} {w w' : World} {e : Ending} {l : List UInt8} (hx : evX k v p.size = 0) (hl : evB k p.data.toList s = l) (h : Below w.heap.size w w' ∧ ((evX k v p.size ≠ 0 ∧ e = .returned (.tuple #[.slice none 0 0, .int .i64 (evX k v p.size)])) ∨
       (evX k v p.size = 0 ∧ ∃ A n c, e = .returned (.tuple #[.slice A n c, .int .i64 0]) ∧ w'.ownsRow w.heap.size 5 1 (.slice A n c) n (bcells (evB k p.data.toList s))))) : (∃ A n c, e = .returned (.tuple #[.slice A n c, .int .i64 0]) ∧ Got w' A n c l) ∧ Below w.heap.size w w' := by
  rw [hx, hl] at h
  rcases h with ⟨hb, ⟨h, _⟩ | ⟨_, A, n, c, h, ho⟩⟩
  · exact absurd rfl h
  · exact ⟨⟨A, n, c, h, Got.of_own ho⟩, hb⟩

theorem decEv_ne {l : List UInt8} {q h : Int} (hx : decEv l = .inl (q, h)) : h ≠ 0 := by
  unfold decEv at hx
  rcases hres : gEv l 0 with ⟨y, q1⟩ | ⟨er, q1⟩
  · rw [hres] at hx
    dsimp only at hx
    split at hx
    · injection hx with hx; injection hx with _ hx; omega
    · cases hx
  · rw [hres] at hx
    injection hx with hx
    injection hx with _ hx
    intro h0
    exact sure_ev _ _ _ _ hres (hx.trans h0)
theorem decEv_in {l : List UInt8} {q h : Int} {W w' : World} {e : Ending} (hx : decEv l = .inl (q, h)) (h1 : DecEv l W e w') : e = .returned (.tuple #[.agg #[.int .i64 0, .int .i32 0, .string ⟨#[]⟩], .int .i64 q, .int .i64 h]) ∧ Below W.heap.size W w' := by
  obtain ⟨h1, h2⟩ := h1
  rw [hx] at h2
  exact ⟨h2.2, h1⟩
theorem decEv_out {l p : List UInt8} {k s : Int} {W w' : World} {e : Ending} (hx : decEv l = .inr (k, p, s)) (h1 : DecEv l W e w') : e = .returned (.tuple #[.agg #[.int .i64 s, .int .i32 k, .string (bs p)], .int .i64 0, .int .i64 0]) ∧ Below W.heap.size W w' := by
  obtain ⟨h1, h2⟩ := h1
  rw [hx] at h2
  exact ⟨h2, h1⟩
theorem decEv_of {l : List UInt8} {x : Int × List UInt8 × Int} {q : Nat} (h : gEv l 0 = .inl (x, q)) (hq : ¬ q < l.length) : decEv l = .inr x := by
  unfold decEv
  rw [h]
  exact if_neg hq
theorem decEv_back {k s : Int} {p : ByteArray} (h : evE k p = 0) (hs : wrap64 s = s) : decEv (evB k p.data.toList s) = .inr (k, p.data.toList, s) :=
  decEv_of (ev_back h hs) (Nat.lt_irrefl _)
theorem dec_half (bA : Option Addr) (bn bc : Nat) (l : List UInt8) (w : World) (hll : l.length ≤ 140737488355328) (hE : Env w)
    (hd : ∀ W, Below w.heap.size w W → Calls Tryz.prog 21 #[.slice bA bn bc] W fun e w' => DecEv l W e w')
    (hr : ∀ W, Below w.heap.size w W → Calls Tryz.prog 22 #[.slice bA bn bc] W fun e w' => DecEv l W e w') : ∃ (s' k' : Int) (p' : ByteArray) (q h : Int),
      (∀ W, Below w.heap.size w W → Calls Tryz.prog 21 #[.slice bA bn bc] W fun e w' => e = .returned (.tuple #[.agg #[.int .i64 s', .int .i32 k', .string p'], .int .i64 q, .int .i64 h]) ∧ Below W.heap.size W w') ∧
      (∀ W, Below w.heap.size w W → Calls Tryz.prog 22 #[.slice bA bn bc] W fun e w' => e = .returned (.tuple #[.agg #[.int .i64 s', .int .i32 k', .string p'], .int .i64 q, .int .i64 h]) ∧ Below W.heap.size W w') ∧
      (h = 0 → ∀ W, Below w.heap.size w W → Calls Tryz.prog 19 #[.agg #[.int .i64 s', .int .i32 k', .string p']] W fun e w' => (∃ A n c, e = .returned (.tuple #[.slice A n c, .int .i64 0]) ∧ Got w' A n c l) ∧ Below W.heap.size W w') := by
  rcases hx : decEv l with ⟨q, h⟩ | ⟨k', p', s'⟩
  · have hh := decEv_ne hx
    refine ⟨0, 0, ⟨#[]⟩, q, h, fun W hW => (hd W hW).mono fun e w' h1 => decEv_in hx h1, fun W hW => (hr W hW).mono fun e w' h1 => decEv_in hx h1, fun e => absurd e hh⟩
  · obtain ⟨f1, f2⟩ := ev_forth hx
    have hpl : p'.length ≤ l.length := by rw [← f1, evB_len]; omega
    have hsz : (bs p').size ≤ 4611686018427387904 := by rw [bs_size]; omega
    refine ⟨s', k', bs p', 0, 0, fun W hW => (hd W hW).mono fun e w' h1 => decEv_out hx h1, fun W hW => (hr W hW).mono fun e w' h1 => decEv_out hx h1, fun _ W hW => ?_⟩
    have hv := vstr_of (bs p') W hsz (hE.below hW)
    have f3 : evX k' (Lib.validD (bs p').data.toList) (bs p').size = 0 := (evE_eq k' (bs p')).symm.trans f2
    have f4 : evB k' (bs p').data.toList s' = l := by rw [bs_data]; exact f1
    exact (encodeEvent_any s' k' (bs p') _ W hv).mono fun e w' h1 => enc_yes f3 f4 h1
set_option maxRecDepth 100000 in
theorem events_law (s k : Int) (p : ByteArray) (bA : Option Addr) (bn bc : Nat) (l : List UInt8) (w : World) (hs : wrap64 s = s) (hp : p.size ≤ 4611686018427387904) (hb : Reads w w.heap.size 1 bA bn (bcells l)) (hbc : bn ≤ bc) (hbn : bn ≤ 140737488355328) (hnil : bA = none → bc = 0) (hE : Env w) :
    Calls Tryz.prog 5 #[.agg #[.int .i64 s, .int .i32 k, .string p], .slice bA bn bc] w fun e w' => e = .returned (.bool true) ∧ Below w.heap.size w w' := by
  have hll : l.length = bn := by have := hb.1; rw [bcells_length] at this; omega
  have hlv : Hid (∀ W, Below w.heap.size w W → Calls Tryz.prog 16 #[] W fun e w' => e = .returned (.bool true) ∧ Below W.heap.size W w') := fun W h => live_any W (hE.below h)
  have hce := fun (W : World) (h : Below w.heap.size w W) => encodeEvent_any s k p (Lib.validD p.data.toList) W (vstr_of p W hp (hE.below h))
  have hcr := fun (W : World) (h : Below w.heap.size w W) => refEncodeEvent_any s k p (Lib.validD p.data.toList) W (vref_of p W hp)
  have hd := fun (W : World) (h : Below w.heap.size w W) => decodeEvent_any bc bn bA l W ((hb.below h).more h.size) hbc hbn hnil (hE.below h)
  have hr := fun (W : World) (h : Below w.heap.size w W) => refDecodeEvent_any bc bn bA l W ((hb.below h).more h.size) hbc hbn hnil
  have gb : Hid (Got w bA bn bc l) := ⟨hb, hbc, hnil⟩
  obtain ⟨s', k', p', q, h, hD, hR, hF⟩ := dec_half bA bn bc l w (by omega) hE hd hr
  -- the event
  obtain ⟨E, hEE⟩ : ∃ E, evX k (Lib.validD p.data.toList) p.size = E := ⟨_, rfl⟩
  by_cases hE0 : E = 0
  · subst hE0
    have hsm : evE k p = 0 := by rw [evE_eq]; exact hEE
    have hps : p.size ≤ 4096 := by
      unfold evX at hEE
      split at hEE
      · split at hEE
        · cases hEE
        · omega
      · cases hEE
    have hel : (evB k p.data.toList s).length ≤ 140737488355328 := by rw [evB_len, ← bsize_eq]; omega
    have hback := decEv_back hsm hs
    have hce' : Hid (∀ W, Below w.heap.size w W → Calls Tryz.prog 19 #[.agg #[.int .i64 s, .int .i32 k, .string p]] W fun e w' => (∃ A n c, e = .returned (.tuple #[.slice A n c, .int .i64 0]) ∧ Got w' A n c (evB k p.data.toList s)) ∧ Below W.heap.size W w') := fun W hW => (hce W hW).mono fun e w' h1 => enc_yes hEE rfl h1
    have hcr' : Hid (∀ W, Below w.heap.size w W → Calls Tryz.prog 20 #[.agg #[.int .i64 s, .int .i32 k, .string p]] W fun e w' => (∃ A n c, e = .returned (.tuple #[.slice A n c, .int .i64 0]) ∧ Got w' A n c (evB k p.data.toList s)) ∧ Below W.heap.size W w') := fun W hW => (hcr W hW).mono fun e w' h1 => enc_yes hEE rfl h1
    have hbk : Hid (∀ W A n c, Below w.heap.size w W → Got W A n c (evB k p.data.toList s) → Calls Tryz.prog 21 #[.slice A n c] W fun e w' => e = .returned (.tuple #[.agg #[.int .i64 s, .int .i32 k, .string p], .int .i64 0, .int .i64 0]) ∧ Below W.heap.size W w') := fun W A n c hW hG => by
      have hn : n ≤ 140737488355328 := by have := hG.1.1; rw [bcells_length] at this; omega
      refine (decodeEvent_any c n A _ W hG.1 hG.2.1 hn hG.2.2 (hE.below hW)).mono fun e w' h1 => ?_
      have h2 := decEv_out hback h1
      rwa [show bs p.data.toList = p from bytes_eta p] at h2
    by_cases hh : h = 0
    · subst hh
      exact events00 w s k p s' k' p' q bA bn bc l _ hce' hcr' hlv hD hR hel hbk (by omega) gb (hF rfl)
    · exact events0h w s k p s' k' p' q h bA bn bc l _ hh hce' hcr' hlv hD hR hel hbk
  · have hce' : Hid (∀ W, Below w.heap.size w W → Calls Tryz.prog 19 #[.agg #[.int .i64 s, .int .i32 k, .string p]] W fun e w' => e = .returned (.tuple #[.slice none 0 0, .int .i64 E]) ∧ Below W.heap.size W w') := fun W hW => (hce W hW).mono fun e w' h1 => enc_no hE0 hEE h1
    have hcr' : Hid (∀ W, Below w.heap.size w W → Calls Tryz.prog 20 #[.agg #[.int .i64 s, .int .i32 k, .string p]] W fun e w' => e = .returned (.tuple #[.slice none 0 0, .int .i64 E]) ∧ Below W.heap.size W w') := fun W hW => (hcr W hW).mono fun e w' h1 => enc_no hE0 hEE h1
    by_cases hh : h = 0
    · subst hh
      exact eventsE0 w s k p s' k' p' q E bA bn bc l [] hE0 hce' hcr' hlv hD hR (by omega) gb (hF rfl)
    · exact eventsEh w s k p s' k' p' q E h bA bn bc l [] hE0 hh hce' hcr' hlv hD hR

section
variable {H : Type} {enc : TypeId × Value → H} {w : World}
theorem ev_open {cs : List Value} (h : Rd enc Tryz.prog w 55 cs) : ∃ (s k : Int) (p : ByteArray), cs = [.int .i64 s, .int .i32 k, .string p] ∧ (Lit.int .i64 s).wf = true ∧ (Lit.int .i32 k).wf = true ∧ p.size ≤ reachBytes := by
  obtain ⟨hl, hf⟩ := h.struct Tryz.underlying55
  rw [show Tryz.prog.cellsOf 55 = 3 by kernel_rfl] at hl
  have kint64 : Tryz.prog.cellsOf 2 = 1 := by kernel_rfl
  have kint32 : Tryz.prog.cellsOf 21 = 1 := by kernel_rfl
  have kstring : Tryz.prog.cellsOf 9 = 1 := by kernel_rfl
  obtain ⟨c0, c1, c2, rfl⟩ : ∃ c0 c1 c2 : Value, cs = [c0, c1, c2] := by
    rcases cs with _ | ⟨c0, _ | ⟨c1, _ | ⟨c2, _ | ⟨c3, r⟩⟩⟩⟩
    all_goals first | exact ⟨_, _, _, rfl⟩ | (simp at hl)
  have h0 : Rd enc Tryz.prog w 2 (([c0, c1, c2].drop 0).take (Tryz.prog.cellsOf 2)) := hf 0 _ rfl
  rw [kint64] at h0
  have h1 : Rd enc Tryz.prog w 21 (([c0, c1, c2].drop 1).take (Tryz.prog.cellsOf 21)) := hf 1 _ rfl
  rw [kint32] at h1
  have h2 : Rd enc Tryz.prog w 9 (([c0, c1, c2].drop 2).take (Tryz.prog.cellsOf 9)) := hf 2 _ rfl
  rw [kstring] at h2
  obtain ⟨a0, e0, w0⟩ := h0.int Tryz.underlying2
  obtain ⟨a1, e1, w1⟩ := h1.int Tryz.underlying21
  obtain ⟨a2, e2, w2⟩ := h2.string Tryz.underlying9
  simp at e0 e1 e2
  subst e0 e1 e2
  exact ⟨a0, a1, a2, rfl, w0, w1, w2⟩
end
theorem cells_slice {P : Program} {w : World} {r : Reach} {b : Nat} {t e : TypeId} {v : Value} {A : Option Addr} {n c : Nat} (ht : P.underlying t = some (.slice e)) (hv : Value.okWide P w r b t v) (h : v.cells.toList = [.slice A n c]) : v = .slice A n c := by
  obtain ⟨a, len, cap, rfl⟩ := okWide_slice ht hv
  simpa [Value.cells] using h
theorem wrap64_of {z : Int} (h : -9223372036854775808 ≤ z ∧ z ≤ 9223372036854775807) : wrap64 z = z := by unfold wrap64; omega
theorem wrap_i64 {z : Int} (h : (Lit.int .i64 z).wf = true) : wrap64 z = z := wrap64_of (bounds_i64 h)

set_option maxRecDepth 100000 in
theorem replyEvents_walk {H : Type} (enc : TypeId × Value → H) (base : Nat) (W : World) (v0 : Value) (d0 : DataW H) (p0 : List MemPlace) (hv0 : Value.okWide Tryz.prog W .any base 55 v0) (h0 : DataW.Trod enc Tryz.prog W 0 (fun _ => true) true 55 v0 d0 p0)
    (v1 : Value) (d1 : DataW H) (p1 : List MemPlace) (hv1 : Value.okWide Tryz.prog W .any base 25 v1) (h1 : DataW.Trod enc Tryz.prog W 0 (fun _ => true) true 25 v1 d1 p1)
    (hsz : (DataW.weightsEach Tryz.prog ([55, 25] : List TypeId) ([d0, d1] : List (DataW H))).all (· ≤ reachBytes) = true) (hlaid : laidMetH Tryz.prog Rows.replyEventsRow.laid W) :
    Calls Tryz.prog 5 #[v0, v1] W fun e w' => e = .returned (.bool true) ∧ Below W.heap.size W w' := by
  have hE : Env W := env_of hlaid (by kernel_rfl) (by simp [Rows.replyEventsRow]) (by simp [Rows.replyEventsRow])
  obtain ⟨s, k, p, hcs, ws, _, hp⟩ := ev_open (rd_of 0 h0 hsz rfl rfl)
  obtain ⟨bA, bn, bc, lb, f1, f2, f3, f4, f5, f6⟩ := (rd_of 1 h1 hsz rfl rfl).bytes Tryz.underlying25 Tryz.underlying5 (by kernel_rfl) (by kernel_rfl)
  obtain ⟨cs, rfl, _⟩ : ∃ cs, v0 = .agg cs ∧ True := by
    unfold Value.okWide at hv0
    rw [Tryz.underlying55] at hv0
    obtain ⟨cs, h, _⟩ := hv0
    exact ⟨cs, h, trivial⟩
  have hcs' : cs = #[.int .i64 s, .int .i32 k, .string p] := Array.ext' (by simpa [Value.cells] using hcs)
  subst hcs'
  rw [cells_slice Tryz.underlying25 hv1 f1]
  unfold reachBytes at hp f4
  exact events_law s k p bA bn bc lb W (wrap_i64 ws) (by omega) f6 f3 (by omega) (fun h => (f2 h).2) hE
end Go.Proofs.YtnbaajplelchjaaGreatDoor
