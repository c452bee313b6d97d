/- unicode/utf8.word at a slice of bytes: the number that the first eight bytes spell. (After the kit's own proof at a string.) -/
import Derived.Test.YtnbaajplelchjaaGreatDoorJw
import Derived.Lib.ValidAsc
import Derived.Lib.EndianBits
import Derived.Lib.Endian
import Derived.Deep.QuietTactic
import Derived.BigQuiet
import Derived.WalkSmall
import Derived.Shelf.Unicode.DecodeSlow
import Derived.Laws.BitsAllLaws
import Derived.Deep.LoopGhost
import Derived.Deep.DeepMust
import Derived.Deep.CutBlock
import Derived.Deep.DeepCutAuto
set_option linter.unusedVariables false
set_option linter.unusedSimpArgs false
namespace Go.Proofs.YtnbaajplelchjaaGreatDoor
open Go.RowKit

theorem get_plain {w : World} {b off : Nat} {l : List UInt8} (hc : ∀ j u, (bcells l)[j]? = some u → w.cell? ⟨b, off + j, none⟩ = some u) (k : Nat) (hk : k < l.length) : w.cell? ⟨b, off + k, none⟩ = some (.int .u8 ((l.getD k 0).toNat : Int)) := by
  refine hc k _ ?_
  rw [bcells_get, List.getElem?_eq_getElem hk]
  simp [List.getD_eq_getElem?_getD, List.getElem?_eq_getElem hk]

theorem take8_list (l : List UInt8) (h : 8 ≤ l.length) : l.take 8 = [l.getD 0 0, l.getD 1 0, l.getD 2 0, l.getD 3 0, l.getD 4 0, l.getD 5 0, l.getD 6 0, l.getD 7 0] := by
  match l, h with
  | a0 :: a1 :: a2 :: a3 :: a4 :: a5 :: a6 :: a7 :: r, _ => simp

set_option maxHeartbeats 8000000 in
set_option maxRecDepth 100000 in
theorem word_any (A : Option Addr) (n c B : Nat) (l : List UInt8) (w : World) (hr : Reads w B 1 A n (bcells l)) (hn : 8 ≤ n) :
    Calls Tryz.prog 160 #[.slice A n c] w fun e w' => e = .returned (.int .u64 (Lib.leNat (l.take 8))) ∧ ∃ q, w' = w.drewN q := by
  have hl : l.length = n := by have := hr.1; rw [bcells_length] at this; omega
  obtain ⟨b, off, rfl, _, hc⟩ := hr.plain (by omega) (by decide)
  have T8 := take8_list l (by omega)
  have c0 := get_plain hc 0 (by omega)
  have c1 := get_plain hc 1 (by omega)
  have c2 := get_plain hc 2 (by omega)
  have c3 := get_plain hc 3 (by omega)
  have c4 := get_plain hc 4 (by omega)
  have c5 := get_plain hc 5 (by omega)
  have c6 := get_plain hc 6 (by omega)
  have c7 := get_plain hc 7 (by omega)
  simp only [Nat.add_zero] at c0
  clear hc hr
  generalize l.getD 0 0 = x0 at T8 c0
  have h0 : x0.toNat < 256 := x0.toNat_lt
  generalize l.getD 1 0 = x1 at T8 c1
  have h1 : x1.toNat < 256 := x1.toNat_lt
  generalize l.getD 2 0 = x2 at T8 c2
  have h2 : x2.toNat < 256 := x2.toNat_lt
  generalize l.getD 3 0 = x3 at T8 c3
  have h3 : x3.toNat < 256 := x3.toNat_lt
  generalize l.getD 4 0 = x4 at T8 c4
  have h4 : x4.toNat < 256 := x4.toNat_lt
  generalize l.getD 5 0 = x5 at T8 c5
  have h5 : x5.toNat < 256 := x5.toNat_lt
  generalize l.getD 6 0 = x6 at T8 c6
  have h6 : x6.toNat < 256 := x6.toNat_lt
  generalize l.getD 7 0 = x7 at T8 c7
  have h7 : x7.toNat < 256 := x7.toNat_lt
  have hv : ((Lib.leNat (l.take 8) : Nat) : Int) = (x0.toNat : Int) + (x1.toNat : Int) * 256 + (x2.toNat : Int) * 65536 + (x3.toNat : Int) * 16777216 + (x4.toNat : Int) * 4294967296 + (x5.toNat : Int) * 1099511627776 + (x6.toNat : Int) * 281474976710656 + (x7.toNat : Int) * 72057594037927936 := by
    rw [T8]
    simp only [Lib.leNat]
    push_cast
    omega
  have HV := Lib.hid hv
  clear hv T8
  have q0 : (0 : Int) < (n : Int) := by omega
  have p0 : 0 < n := by omega
  have q1 : (1 : Int) < (n : Int) := by omega
  have p1 : 1 < n := by omega
  have q2 : (2 : Int) < (n : Int) := by omega
  have p2 : 2 < n := by omega
  have q3 : (3 : Int) < (n : Int) := by omega
  have p3 : 3 < n := by omega
  have q4 : (4 : Int) < (n : Int) := by omega
  have p4 : 4 < n := by omega
  have q5 : (5 : Int) < (n : Int) := by omega
  have p5 : 5 < n := by omega
  have q6 : (6 : Int) < (n : Int) := by omega
  have p6 : 6 < n := by omega
  have q7 : (7 : Int) < (n : Int) := by omega
  have p7 : 7 < n := by omega
  clear hl
  go_enter Tryz.func160, Tryz.ntmps160
  go_wp2
  go_quiet (fail)
  go_wp2
  go_ret
  refine ⟨?_, _, rfl⟩
  simp (disch := omega) only [u64_wrap_id, u64_or8, u64_or16, u64_or24, u64_or32, u64_or40, u64_or48, u64_or56]
  rw [HV.out]
  rfl
end Go.Proofs.YtnbaajplelchjaaGreatDoor
/- unicode/utf8.Valid at a slice of bytes: the walk. (After the kit's own proof of ValidString.) -/
namespace Go.Proofs.YtnbaajplelchjaaGreatDoor
open Go.RowKit

/-- the first k bytes are below 128 -/
def AscL (t : List UInt8) (k : Nat) : Prop := ∀ b ∈ t.take k, b.toNat < 128
theorem word_ascL (t : List UInt8) (h : 8 ≤ t.length) : (Lib.leNat (t.take 8) &&& 9259542123273814144 = 0) ↔ AscL t 8 := by
  have h8 : (t.take 8).length = 8 := by rw [List.length_take]; omega
  have := Lib.leNat_mask (t.take 8)
  rw [h8, Lib.maskN8] at this
  exact this
theorem word_ltL (t : List UInt8) (h : 8 ≤ t.length) : Lib.leNat (t.take 8) < 18446744073709551616 := by
  have h8 : (t.take 8).length = 8 := by rw [List.length_take]; omega
  have h := Lib.leNat_lt (t.take 8)
  rw [h8] at h
  simpa using h
theorem asc_addL (t : List UInt8) (a b : Nat) (ha : AscL t a) (hb : AscL (t.drop a) b) : AscL t (a + b) := by
  unfold AscL at *
  rw [List.take_add]
  intro x hx
  rcases List.mem_append.1 hx with h | h
  · exact ha x h
  · exact hb x h
theorem valid_skipL (t : List UInt8) (k : Nat) (h : AscL t k) : Lib.validD (t.drop k) = Lib.validD t := (Lib.validD_ascii k _ h).symm
theorem asc_oneL (t : List UInt8) (h0 : 0 < t.length) (h : (t.getD 0 0).toNat < 128) : AscL t 1 := by
  match t, h0 with
  | a :: r, _ =>
    intro b hb
    simp at hb h
    subst hb
    exact h
set_option maxRecDepth 100000 in
theorem and7L : ∀ X : _root_.Fin 256, bits .and .u8 ((X.val : Nat) : Int) 7 = ((X.val % 8 : Nat) : Int) := by decide

/-- the rest of a row of bytes -/
theorem reads_rest {w : World} {B k : Nat} {A : Option Addr} {t : List UInt8} (h : Reads w B 1 A t.length (bcells t)) (hk : k ≤ t.length) : Reads w B 1 (if t.length = k then A else A.map (·.add k)) (t.drop k).length (bcells (t.drop k)) := by
  have := h.cut hk (Nat.le_refl _)
  rw [Nat.mul_one] at this
  have e : (bcells t).drop k = bcells (t.drop k) := by simp [bcells]
  rwa [e, ← List.length_drop] at this

/-- 's[k:]' at a row that is full -/
theorem run_rest {w : World} {B : Nat} {A : Option Addr} {t : List UInt8} (h : Reads w B 1 A t.length (bcells t)) (k : Nat) (z : Int) (hz : z = k) (hk : k ≤ t.length) : ∃ A1, (∀ W : World, (Instr.sliceAt 25 (.slice A t.length t.length) (some (.int .i64 z)) none none).run Tryz.prog W = .ok (.slice A1 (t.drop k).length (t.drop k).length) W) ∧ Reads w B 1 A1 (t.drop k).length (bcells (t.drop k)) := by
  subst hz
  refine ⟨_, fun W => ?_, reads_rest h hk⟩
  rw [List.length_drop]
  by_cases e : t.length = k
  · subst e
    simp [go_sem]
  · simp [go_sem, e]
    intro hlt
    omega

theorem word_at {w : World} {B : Nat} {A : Option Addr} {t : List UInt8} (h : Reads w B 1 A t.length (bcells t)) (h8 : 8 ≤ t.length) {N : Nat} (hN : Lib.leNat (t.take 8) = N) :
    Calls Tryz.prog 160 #[.slice A t.length t.length] w fun e w' => e = .returned (.int .u64 N) ∧ ∃ q, w' = w.drewN q := by
  subst hN
  exact word_any A _ _ B t _ h h8
/-- a word is quiet -/
theorem word_quiet {w : World} {B : Nat} {A : Option Addr} {t : List UInt8} (h : Reads w B 1 A t.length (bcells t)) (h8 : 8 ≤ t.length) {N : Nat} (hN : Lib.leNat (t.take 8) = N) (k : Nat) :
    Calls Tryz.prog 160 #[.slice A t.length t.length] (w.drewN k) fun e w' => e = .returned (.int .u64 N) ∧ ∃ q, w' = (w.drewN k).drewN q := by
  subst hN
  exact word_any A _ _ B t _ (h.drewN k) h8

set_option maxHeartbeats 16000000 in
set_option maxRecDepth 1000000 in
theorem valid_any (A : Option Addr) (n c B : Nat) (l : List UInt8) (w : World) (hr : Reads w B 1 A n (bcells l)) (hnc : n ≤ c) (hn : n ≤ 140737488355328) (hB : B ≤ w.heap.size) (hT : Lib.Utf8Tabs 0 1 w) :
    Calls Tryz.prog 121 #[.slice A n c] w fun e w' => e = .returned (.bool (Lib.validD l)) ∧ Below w.heap.size w w' := by
  have hl : l.length = n := by have := hr.1; rw [bcells_length] at this; omega
  subst hl
  obtain ⟨ANS, hANS⟩ : ∃ ANS, Lib.validD l = ANS := ⟨_, rfl⟩
  rw [hANS]
  go_enter Tryz.func121, Tryz.ntmps121
  go_wp2
  go_loopg [0] (l.length + 1) (fun gk s0 wx => Below w.heap.size w wx ∧ ∃ (t : List UInt8) (A : Option Addr), s0 = .slice A t.length t.length ∧ Reads wx B 1 A t.length (bcells t) ∧ Lib.validD t = ANS ∧ t.length < gk ∧ t.length ≤ 140737488355328)
  case atStart => exact ⟨Below.refl _ _, l, A, rfl, hr, hANS, by omega, hn⟩
  case round =>
    obtain ⟨hbw, t, A, rfl, hrt, hv, hg, hts⟩ := hrel
    clear hANS hr hnc hn
    have hTr := Utf8Tabs_below hT hbw
    by_cases h0 : 0 < t.length
    · obtain ⟨g', rfl⟩ : ∃ g', gk = g' + 1 := ⟨gk - 1, by omega⟩
      have h0z : (0 : Int) < (t.length : Int) := by omega
      obtain ⟨b, off, rfl, hbB, hc⟩ := hrt.plain h0 (by decide)
      have c0 := get_plain hc 0 h0
      rw [Nat.add_zero] at c0
      obtain ⟨x0, hx0⟩ : ∃ x0, t.getD 0 0 = x0 := ⟨_, rfl⟩
      rw [hx0] at c0
      have hx0lt : x0.toNat < 256 := x0.toNat_lt
      have hbl : b < wr.heap.size := by have := hbw.size; omega
      by_cases hasc : x0.toNat < 128
      · as_aux_lemma =>
          have hascz : (x0.toNat : Int) < 128 := by omega
          have a1 : AscL t 1 := asc_oneL t h0 (by rw [hx0]; exact hasc)
          obtain ⟨A1, s1, r1⟩ := run_rest hrt 1 1 rfl (by omega)
          obtain ⟨t1, ht1⟩ : ∃ t1, t.drop 1 = t1 := ⟨_, rfl⟩
          rw [ht1] at s1 r1
          have z1 : t1.length + 1 = t.length := by rw [← ht1, List.length_drop]; omega
          have v1 : Lib.validD t1 = ANS := by rw [← ht1, valid_skipL t 1 a1]; exact hv
          clear hTr hT hv a1 hc hx0 ht1
          by_cases c8 : 8 < t1.length
          · have c8z : (8 : Int) < (t1.length : Int) := by omega
            obtain ⟨W1, hW1⟩ : ∃ N, Lib.leNat (t1.take 8) = N := ⟨_, rfl⟩
            have lW1 : W1 < 18446744073709551616 := hW1 ▸ word_ltL t1 (by omega)
            have kW1 := word_ascL t1 (by omega)
            rw [hW1] at kW1
            have cW1 := word_at r1 (by omega) hW1
            have hand1 : bits .and .u64 (W1 : Int) 9259542123273814144 = ((W1 &&& 9259542123273814144 : Nat) : Int) := u64_and_nat W1 9259542123273814144 lW1 (by omega)
            obtain ⟨Z1, hZ1⟩ : ∃ Z1, W1 &&& 9259542123273814144 = Z1 := ⟨_, rfl⟩
            rw [hZ1] at hand1 kW1
            clear hW1 hZ1
            by_cases hz1 : Z1 = 0
            · have hz1b : ((Z1 : Int) == 0) = true := by simp [hz1]
              have a8 : AscL t1 8 := kW1.1 hz1
              obtain ⟨A2, s2, r2⟩ := run_rest r1 8 8 rfl (by omega)
              obtain ⟨t2, ht2⟩ : ∃ t', t1.drop 8 = t' := ⟨_, rfl⟩
              rw [ht2] at s2 r2
              have z2 : t2.length + 8 = t1.length := by rw [← ht2, List.length_drop]; omega
              have v2 : Lib.validD t2 = ANS := by rw [← ht2, valid_skipL t1 8 a8]; exact v1
              clear kW1 a8 v1 ht2
              go_wp2_with (go_at_call 160; go_must (refine (cW1).mono ?_; rintro e W1 ⟨rfl, q1, rfl⟩))
              have hb1 : Below w.heap.size w (wr.drewN q1) := below_drewN' hbw q1
              have r2 := r2.drewN q1
              generalize hwq : wr.drewN q1 = wq at hb1 r2 ⊢
              clear cW1 hbw hwq hrt r1 c0
              by_cases c16 : 16 < t2.length
              · as_aux_lemma =>
                  have c16z : (16 : Int) < (t2.length : Int) := by omega
                  obtain ⟨A2b, s2b, r2b⟩ := run_rest r2 8 8 rfl (by omega)
                  obtain ⟨t2b, ht2b⟩ : ∃ t', t2.drop 8 = t' := ⟨_, rfl⟩
                  rw [ht2b] at s2b r2b
                  have z2b : t2b.length + 8 = t2.length := by rw [← ht2b, List.length_drop]; omega
                  obtain ⟨W2, hW2⟩ : ∃ N, Lib.leNat (t2.take 8) = N := ⟨_, rfl⟩
                  have lW2 : W2 < 18446744073709551616 := hW2 ▸ word_ltL t2 (by omega)
                  have kW2 := word_ascL t2 (by omega)
                  rw [hW2] at kW2
                  obtain ⟨W3, hW3⟩ : ∃ N, Lib.leNat (t2b.take 8) = N := ⟨_, rfl⟩
                  have lW3 : W3 < 18446744073709551616 := hW3 ▸ word_ltL t2b (by omega)
                  have kW3 := word_ascL t2b (by omega)
                  rw [hW3] at kW3
                  have cW2 := word_quiet r2 (by omega) hW2
                  have cW3 := word_quiet r2b (by omega) hW3
                  have hor2 : bits .or .u64 (W2 : Int) (W3 : Int) = ((W2 ||| W3 : Nat) : Int) := u64_or_nat W2 W3 lW2 lW3
                  have lor2 : W2 ||| W3 < 18446744073709551616 := Nat.or_lt_two_pow (n := 64) lW2 lW3
                  have hand2 : bits .and .u64 ((W2 ||| W3 : Nat) : Int) 9259542123273814144 = (((W2 ||| W3) &&& 9259542123273814144 : Nat) : Int) := u64_and_nat _ 9259542123273814144 lor2 (by omega)
                  have k2 : (W2 ||| W3) &&& 9259542123273814144 = 0 → AscL t2 16 := fun h0' => by
                    obtain ⟨e1, e2⟩ := (Lib.or_mask W2 W3 _).1 h0'
                    exact asc_addL t2 8 8 (kW2.1 e1) (by rw [ht2b]; exact kW3.1 e2)
                  obtain ⟨O2, hO2⟩ : ∃ O2, W2 ||| W3 = O2 := ⟨_, rfl⟩
                  rw [hO2] at hor2 hand2 k2
                  obtain ⟨Z2, hZ2⟩ : ∃ Z2, O2 &&& 9259542123273814144 = Z2 := ⟨_, rfl⟩
                  rw [hZ2] at hand2 k2
                  clear kW2 kW3 lor2 hO2 hZ2 hW2 hW3 ht2b
                  by_cases hz2 : Z2 = 0
                  · have hz2b : ((Z2 : Int) == 0) = true := by simp [hz2]
                    have a16 := k2 hz2
                    obtain ⟨A3, s3, r3⟩ := run_rest r2 16 16 rfl (by omega)
                    obtain ⟨t3, ht3⟩ : ∃ t', t2.drop 16 = t' := ⟨_, rfl⟩
                    rw [ht3] at s3 r3
                    have z3 : t3.length + 16 = t2.length := by rw [← ht3, List.length_drop]; omega
                    have v3 : Lib.validD t3 = ANS := by rw [← ht3, valid_skipL t2 16 a16]; exact v2
                    clear k2 a16 v2 ht3
                    go_quiet ((with_reducible (first | (go_at_call 160; refine Calls.quiet_of (cW2 _)) | (go_at_call 160; refine Calls.quiet_of (cW3 _)))))
                    have hb2 : Below w.heap.size w (wq.drewN nq) := below_drewN' hb1 nq
                    have r3 := r3.drewN nq
                    generalize hwq2 : wq.drewN nq = wq2 at hb2 r3 ⊢
                    clear cW2 cW3 hb1 hwq2 r2 r2b
                    go_wp2
                    go_loopg [0] (t3.length + 1) (fun g2 s0 wx => Below w.heap.size w wx ∧ ∃ (u : List UInt8) (A : Option Addr), s0 = .slice A u.length u.length ∧ Reads wx B 1 A u.length (bcells u) ∧ Lib.validD u = ANS ∧ u.length < g2 ∧ u.length ≤ t3.length)
                    case atStart => exact ⟨hb2, t3, A3, rfl, r3, v3, by omega, Nat.le_refl _⟩
                    case round =>
                      clear hb2 r3 v3
                      obtain ⟨hbu, u, Au, rfl, ru, vu, hgu, hut⟩ := hrel
                      by_cases c32 : 32 < u.length
                      · as_aux_lemma =>
                          obtain ⟨g3, rfl⟩ : ∃ g3, gk = g3 + 1 := ⟨gk - 1, by omega⟩
                          have c32z : (32 : Int) < (u.length : Int) := by omega
                          obtain ⟨Aub, sub, rub⟩ := run_rest ru 8 8 rfl (by omega)
                          obtain ⟨ub, hub⟩ : ∃ t', u.drop 8 = t' := ⟨_, rfl⟩
                          rw [hub] at sub rub
                          have zub : ub.length + 8 = u.length := by rw [← hub, List.length_drop]; omega
                          obtain ⟨Auc, suc, ruc⟩ := run_rest ru 16 16 rfl (by omega)
                          obtain ⟨uc, huc⟩ : ∃ t', u.drop 16 = t' := ⟨_, rfl⟩
                          rw [huc] at suc ruc
                          have zuc : uc.length + 16 = u.length := by rw [← huc, List.length_drop]; omega
                          obtain ⟨Aud, sud, rud⟩ := run_rest ru 24 24 rfl (by omega)
                          obtain ⟨ud, hud⟩ : ∃ t', u.drop 24 = t' := ⟨_, rfl⟩
                          rw [hud] at sud rud
                          have zud : ud.length + 24 = u.length := by rw [← hud, List.length_drop]; omega
                          obtain ⟨B0, hB0⟩ : ∃ N, Lib.leNat (u.take 8) = N := ⟨_, rfl⟩
                          have lB0 : B0 < 18446744073709551616 := hB0 ▸ word_ltL u (by omega)
                          have kB0 := word_ascL u (by omega)
                          rw [hB0] at kB0
                          have cB0 := word_quiet ru (by omega) hB0
                          obtain ⟨B1, hB1⟩ : ∃ N, Lib.leNat (ub.take 8) = N := ⟨_, rfl⟩
                          have lB1 : B1 < 18446744073709551616 := hB1 ▸ word_ltL ub (by omega)
                          have kB1 := word_ascL ub (by omega)
                          rw [hB1] at kB1
                          have cB1 := word_quiet rub (by omega) hB1
                          obtain ⟨B2, hB2⟩ : ∃ N, Lib.leNat (uc.take 8) = N := ⟨_, rfl⟩
                          have lB2 : B2 < 18446744073709551616 := hB2 ▸ word_ltL uc (by omega)
                          have kB2 := word_ascL uc (by omega)
                          rw [hB2] at kB2
                          have cB2 := word_quiet ruc (by omega) hB2
                          obtain ⟨B3, hB3⟩ : ∃ N, Lib.leNat (ud.take 8) = N := ⟨_, rfl⟩
                          have lB3 : B3 < 18446744073709551616 := hB3 ▸ word_ltL ud (by omega)
                          have kB3 := word_ascL ud (by omega)
                          rw [hB3] at kB3
                          have cB3 := word_quiet rud (by omega) hB3
                          have ho1 : bits .or .u64 (B0 : Int) (B1 : Int) = ((B0 ||| B1 : Nat) : Int) := u64_or_nat B0 B1 lB0 lB1
                          have ho2 : bits .or .u64 (B2 : Int) (B3 : Int) = ((B2 ||| B3 : Nat) : Int) := u64_or_nat B2 B3 lB2 lB3
                          have lo1 : B0 ||| B1 < 18446744073709551616 := Nat.or_lt_two_pow (n := 64) lB0 lB1
                          have lo2 : B2 ||| B3 < 18446744073709551616 := Nat.or_lt_two_pow (n := 64) lB2 lB3
                          have ho3 : bits .or .u64 ((B0 ||| B1 : Nat) : Int) ((B2 ||| B3 : Nat) : Int) = (((B0 ||| B1) ||| (B2 ||| B3) : Nat) : Int) := u64_or_nat _ _ lo1 lo2
                          have lo3 : (B0 ||| B1) ||| (B2 ||| B3) < 18446744073709551616 := Nat.or_lt_two_pow (n := 64) lo1 lo2
                          have hand3 : bits .and .u64 (((B0 ||| B1) ||| (B2 ||| B3) : Nat) : Int) 9259542123273814144 = ((((B0 ||| B1) ||| (B2 ||| B3)) &&& 9259542123273814144 : Nat) : Int) := u64_and_nat _ 9259542123273814144 lo3 (by omega)
                          have k3 : ((B0 ||| B1) ||| (B2 ||| B3)) &&& 9259542123273814144 = 0 → AscL u 32 := fun h0' => by
                            obtain ⟨e01, e23⟩ := (Lib.or_mask _ _ _).1 h0'
                            obtain ⟨e0, e1⟩ := (Lib.or_mask _ _ _).1 e01
                            obtain ⟨e2, e3⟩ := (Lib.or_mask _ _ _).1 e23
                            have s16 : AscL u 16 := asc_addL u 8 8 (kB0.1 e0) (by rw [hub]; exact kB1.1 e1)
                            have s24 : AscL u 24 := asc_addL u 16 8 s16 (by rw [huc]; exact kB2.1 e2)
                            exact asc_addL u 24 8 s24 (by rw [hud]; exact kB3.1 e3)
                          obtain ⟨P1, hP1⟩ : ∃ P1, B0 ||| B1 = P1 := ⟨_, rfl⟩
                          obtain ⟨P2, hP2⟩ : ∃ P2, B2 ||| B3 = P2 := ⟨_, rfl⟩
                          rw [hP1, hP2] at ho3 hand3 k3
                          rw [hP1] at ho1
                          rw [hP2] at ho2
                          obtain ⟨P3, hP3⟩ : ∃ P3, P1 ||| P2 = P3 := ⟨_, rfl⟩
                          rw [hP3] at ho3 hand3 k3
                          obtain ⟨Z3, hZ3⟩ : ∃ Z3, P3 &&& 9259542123273814144 = Z3 := ⟨_, rfl⟩
                          rw [hZ3] at hand3 k3
                          clear kB0 kB1 kB2 kB3 lo1 lo2 lo3 hP1 hP2 hP3 hZ3 hB0 hB1 hB2 hB3 hub huc hud
                          by_cases hz3 : Z3 = 0
                          · as_aux_lemma =>
                              have hz3b : ((Z3 : Int) == 0) = true := by simp [hz3]
                              have a32 := k3 hz3
                              obtain ⟨Au2, su2, ru2⟩ := run_rest ru 32 32 rfl (by omega)
                              obtain ⟨u2, hu2⟩ : ∃ t', u.drop 32 = t' := ⟨_, rfl⟩
                              rw [hu2] at su2 ru2
                              have zu2 : u2.length + 32 = u.length := by rw [← hu2, List.length_drop]; omega
                              have vu2 : Lib.validD u2 = ANS := by rw [← hu2, valid_skipL u 32 a32]; exact vu
                              clear hu2 k3 a32 vu
                              go_wp2_with fail
                              go_quiet ((with_reducible (first | (go_at_call 160; refine Calls.quiet_of (cB0 _)) | (go_at_call 160; refine Calls.quiet_of (cB1 _)) | (go_at_call 160; refine Calls.quiet_of (cB2 _)) | (go_at_call 160; refine Calls.quiet_of (cB3 _)))))
                              go_wp2
                              go_roundg g3
                              case measure => omega
                              case rel => exact ⟨below_drewN' hbu nq, u2, Au2, rfl, ru2.drewN nq, vu2, by omega, by omega⟩
                          · have hz3b : ((Z3 : Int) == 0) = false := by simp; omega
                            go_wp2_with fail
                            go_quiet ((with_reducible (first | (go_at_call 160; refine Calls.quiet_of (cB0 _)) | (go_at_call 160; refine Calls.quiet_of (cB1 _)) | (go_at_call 160; refine Calls.quiet_of (cB2 _)) | (go_at_call 160; refine Calls.quiet_of (cB3 _)))))
                            go_wp2
                            go_roundg g'
                            case measure => omega
                            case rel => exact ⟨below_drewN' hbu nq, u, Au, rfl, ru.drewN nq, vu, by omega, by omega⟩
                      · have c32z : ¬ ((32 : Int) < (u.length : Int)) := by omega
                        have c32b : decide ((32 : Int) < (u.length : Int)) = false := decide_eq_false c32z
                        go_wp2_with fail
                        go_quiet (fail)
                        go_wp2
                        go_roundg g'
                        case measure => omega
                        case rel => exact ⟨below_drewN' hbu nq, u, Au, rfl, ru.drewN nq, vu, by omega, by omega⟩
                  · have hz2b : ((Z2 : Int) == 0) = false := by simp; omega
                    go_quiet ((with_reducible (first | (go_at_call 160; refine Calls.quiet_of (cW2 _)) | (go_at_call 160; refine Calls.quiet_of (cW3 _)))))
                    go_wp2
                    go_roundg g'
                    case measure => omega
                    case rel => exact ⟨below_drewN' hb1 nq, t2, A2, rfl, r2.drewN nq, v2, by omega, by omega⟩
              · have c16z : ¬ ((16 : Int) < (t2.length : Int)) := by omega
                have c16b : decide ((16 : Int) < (t2.length : Int)) = false := decide_eq_false c16z
                go_quiet (fail)
                go_wp2
                go_roundg g'
                case measure => omega
                case rel => exact ⟨below_drewN' hb1 nq, t2, A2, rfl, r2.drewN nq, v2, by omega, by omega⟩
            · have hz1b : ((Z1 : Int) == 0) = false := by simp; omega
              go_wp2_with (go_at_call 160; go_must (refine (cW1).mono ?_; rintro e W1 ⟨rfl, q1, rfl⟩))
              go_roundg g'
              case measure => omega
              case rel => exact ⟨below_drewN' hbw q1, t1, A1, rfl, r1.drewN q1, v1, by omega, by omega⟩
          · have c8z : ¬ ((8 : Int) < (t1.length : Int)) := by omega
            go_wp2
            go_roundg g'
            case measure => omega
            case rel => exact ⟨hbw, t1, A1, rfl, r1, v1, by omega, by omega⟩
      · have hge : 128 ≤ x0.toNat := by omega
        have hascz : ¬ ((x0.toNat : Int) < 128) := by omega
        obtain ⟨x1, hx1⟩ : ∃ x1, t.getD 1 0 = x1 := ⟨_, rfl⟩
        obtain ⟨x2, hx2⟩ : ∃ x2, t.getD 2 0 = x2 := ⟨_, rfl⟩
        obtain ⟨x3, hx3⟩ : ∃ x3, t.getD 3 0 = x3 := ⟨_, rfl⟩
        have l1 := x1.toNat_lt; have l2 := x2.toNat_lt; have l3 := x3.toNat_lt
        have hne : t ≠ [] := fun h => by rw [h] at h0; simp at h0
        have hlead := Lib.validD_lead t hne (by rw [hx0]; exact hge)
        rw [hx0, hx1, hx2, hx3, hv] at hlead
        have d1 : 1 < t.length → wr.cell? ⟨b, off + 1, none⟩ = some (.int .u8 (x1.toNat : Int)) := fun h => by rw [← hx1]; exact get_plain hc 1 h
        have d2 : 2 < t.length → wr.cell? ⟨b, off + 2, none⟩ = some (.int .u8 (x2.toNat : Int)) := fun h => by rw [← hx2]; exact get_plain hc 2 h
        have d3 : 3 < t.length → wr.cell? ⟨b, off + 3, none⟩ = some (.int .u8 (x3.toNat : Int)) := fun h => by rw [← hx3]; exact get_plain hc 3 h
        have D1 := Lib.hid d1
        have D2 := Lib.hid d2
        have D3 := Lib.hid d3
        have f0 := hTr.1 x0.toNat hx0lt
        have hXlt : Lib.firstT x0.toNat < 256 := by rcases Lib.firstT_cases x0.toNat with h | h | h | h | h | h | h | h | h <;> omega
        obtain ⟨X, hX⟩ : ∃ X, Lib.firstT x0.toNat = X := ⟨_, rfl⟩
        rw [hX] at f0 hXlt hlead
        have h7 := and7L ⟨X, hXlt⟩
        simp only at h7
        have ha0 : wr.cell? ⟨1, X / 16 * 2, none⟩ = some (.int .u8 (Lib.accLo (X / 16))) := by rw [Nat.mul_comm]; exact (hTr.2 (X / 16) (by omega)).1
        have ha1 : wr.cell? ⟨1, X / 16 * 2 + 1, none⟩ = some (.int .u8 (Lib.accHi (X / 16))) := by rw [Nat.mul_comm]; exact (hTr.2 (X / 16) (by omega)).2
        obtain ⟨LO, hLO⟩ : ∃ LO, Lib.accLo (X / 16) = LO := ⟨_, rfl⟩
        obtain ⟨HI, hHI⟩ : ∃ HI, Lib.accHi (X / 16) = HI := ⟨_, rfl⟩
        rw [hLO] at ha0 hlead
        rw [hHI] at ha1 hlead
        obtain ⟨SZ, hSZ⟩ : ∃ SZ, X % 8 = SZ := ⟨_, rfl⟩
        rw [hSZ] at hlead
        have HLEAD := Lib.hid hlead
        clear hTr hT hX hv hLO hHI hne d1 d2 d3 hc hx0 hx1 hx2 hx3 hlead
        by_cases s2 : SZ = 2
        · as_aux_lemma =>
            subst s2
            have hSZz : (X : Int) % 8 = 2 := by omega
            have hlead := HLEAD.out
            simp only [Lib.checkN, Nat.reduceEqDiff, if_true, if_false] at hlead
            have HLEAD := Lib.hid hlead
            clear hlead hSZ
            go_upto_region 18 with fail
            go_cut [103] from 85 to 103 (fun c wx => c = .bool (decide (t.length < 2 ∨ x1.toNat < LO ∨ HI < x1.toNat)) ∧ Below wr.heap.size wr wx)
            case first =>
              by_cases q0 : t.length < 2
              · have q0z : (t.length : Int) < 2 := by omega
                go_quiet (fail)
                go_wp2
                go_meet
                exact ⟨congrArg Value.bool (decide_eq_true (p := t.length < 2 ∨ x1.toNat < LO ∨ HI < x1.toNat) (by omega)).symm, below_drewN' ((Below.refl _ _).alloc (Nat.le_refl _) _) _⟩
              · have q0z : ¬ ((t.length : Int) < 2) := by omega
                have hz1 : (1 : Int) < (t.length : Int) := by omega
                have hp1 : 1 < t.length := by omega
                have e1 := D1.out (by omega)
                by_cases q1 : x1.toNat < LO
                · have q1z : (x1.toNat : Int) < (LO : Int) := by omega
                  go_quiet (fail)
                  go_wp2
                  go_meet
                  exact ⟨congrArg Value.bool (decide_eq_true (p := t.length < 2 ∨ x1.toNat < LO ∨ HI < x1.toNat) (by omega)).symm, below_drewN' ((Below.refl _ _).alloc (Nat.le_refl _) _) _⟩
                · have q1z : ¬ ((x1.toNat : Int) < (LO : Int)) := by omega
                  by_cases q2 : HI < x1.toNat
                  · have q2z : (HI : Int) < (x1.toNat : Int) := by omega
                    go_quiet (fail)
                    go_wp2
                    go_meet
                    exact ⟨congrArg Value.bool (decide_eq_true (p := t.length < 2 ∨ x1.toNat < LO ∨ HI < x1.toNat) (by omega)).symm, below_drewN' ((Below.refl _ _).alloc (Nat.le_refl _) _) _⟩
                  · have q2z : ¬ ((HI : Int) < (x1.toNat : Int)) := by omega
                    go_quiet (fail)
                    go_wp2
                    go_meet
                    exact ⟨congrArg Value.bool (decide_eq_false (p := t.length < 2 ∨ x1.toNat < LO ∨ HI < x1.toNat) (by omega)).symm, below_drewN' ((Below.refl _ _).alloc (Nat.le_refl _) _) _⟩
            case rest =>
              obtain ⟨rfl, hbc⟩ := hcut
              by_cases hb : t.length < 2 ∨ x1.toNat < LO ∨ HI < x1.toNat
              · have hbd : decide (t.length < 2 ∨ x1.toNat < LO ∨ HI < x1.toNat) = true := decide_eq_true hb
                have hans : ANS = false := by have h := HLEAD.out; rwa [if_pos hb] at h
                have HANS := Lib.hid hans
                clear hans HLEAD
                go_wp2
                all_goals (go_ret; exact ⟨by rw [HANS.out]; rfl, hbw.trans (hbc.mono hbw.size)⟩)
              · have hbd : decide (t.length < 2 ∨ x1.toNat < LO ∨ HI < x1.toNat) = false := decide_eq_false hb
                have hans : ANS = Lib.validD (t.drop 2) := by have h := HLEAD.out; rwa [if_neg hb] at h
                have HANS := Lib.hid hans
                obtain ⟨A2, s2, r2⟩ := run_rest hrt 2 2 rfl (by omega)
                obtain ⟨t2, ht2⟩ : ∃ t2, t.drop 2 = t2 := ⟨_, rfl⟩
                have HT2 := Lib.hid ht2
                rw [ht2] at s2 r2
                have z2 : t2.length + 2 = t.length := by rw [← ht2, List.length_drop]; omega
                clear hans HLEAD ht2
                go_wp2
                go_roundg g'
                case measure => omega
                case rel => exact ⟨hbw.trans (hbc.mono hbw.size), t2, A2, rfl, r2.below (hbc.mono (by have := hbw.size; omega)), by rw [HANS.out, HT2.out], by omega, by omega⟩
        by_cases s3 : SZ = 3
        · as_aux_lemma =>
            subst s3
            have hSZz : (X : Int) % 8 = 3 := by omega
            have hlead := HLEAD.out
            simp only [Lib.checkN, Nat.reduceEqDiff, if_true, if_false] at hlead
            have HLEAD := Lib.hid hlead
            clear hlead hSZ
            go_upto_region 22 with fail
            go_cut [138] from 108 to 138 (fun c wx => c = .bool (decide (t.length < 3 ∨ x1.toNat < LO ∨ HI < x1.toNat ∨ x2.toNat < 128 ∨ 191 < x2.toNat)) ∧ Below wr.heap.size wr wx)
            case first =>
              by_cases q0 : t.length < 3
              · have q0z : (t.length : Int) < 3 := by omega
                go_quiet (fail)
                go_wp2
                go_meet
                exact ⟨congrArg Value.bool (decide_eq_true (p := t.length < 3 ∨ x1.toNat < LO ∨ HI < x1.toNat ∨ x2.toNat < 128 ∨ 191 < x2.toNat) (by omega)).symm, below_drewN' ((Below.refl _ _).alloc (Nat.le_refl _) _) _⟩
              · have q0z : ¬ ((t.length : Int) < 3) := by omega
                have hz1 : (1 : Int) < (t.length : Int) := by omega
                have hp1 : 1 < t.length := by omega
                have e1 := D1.out (by omega)
                have hz2 : (2 : Int) < (t.length : Int) := by omega
                have hp2 : 2 < t.length := by omega
                have e2 := D2.out (by omega)
                by_cases q1 : x1.toNat < LO
                · have q1z : (x1.toNat : Int) < (LO : Int) := by omega
                  go_quiet (fail)
                  go_wp2
                  go_meet
                  exact ⟨congrArg Value.bool (decide_eq_true (p := t.length < 3 ∨ x1.toNat < LO ∨ HI < x1.toNat ∨ x2.toNat < 128 ∨ 191 < x2.toNat) (by omega)).symm, below_drewN' ((Below.refl _ _).alloc (Nat.le_refl _) _) _⟩
                · have q1z : ¬ ((x1.toNat : Int) < (LO : Int)) := by omega
                  by_cases q2 : HI < x1.toNat
                  · have q2z : (HI : Int) < (x1.toNat : Int) := by omega
                    go_quiet (fail)
                    go_wp2
                    go_meet
                    exact ⟨congrArg Value.bool (decide_eq_true (p := t.length < 3 ∨ x1.toNat < LO ∨ HI < x1.toNat ∨ x2.toNat < 128 ∨ 191 < x2.toNat) (by omega)).symm, below_drewN' ((Below.refl _ _).alloc (Nat.le_refl _) _) _⟩
                  · have q2z : ¬ ((HI : Int) < (x1.toNat : Int)) := by omega
                    by_cases q3 : x2.toNat < 128
                    · have q3z : (x2.toNat : Int) < 128 := by omega
                      go_quiet (fail)
                      go_wp2
                      go_meet
                      exact ⟨congrArg Value.bool (decide_eq_true (p := t.length < 3 ∨ x1.toNat < LO ∨ HI < x1.toNat ∨ x2.toNat < 128 ∨ 191 < x2.toNat) (by omega)).symm, below_drewN' ((Below.refl _ _).alloc (Nat.le_refl _) _) _⟩
                    · have q3z : ¬ ((x2.toNat : Int) < 128) := by omega
                      by_cases q4 : 191 < x2.toNat
                      · have q4z : (191 : Int) < (x2.toNat : Int) := by omega
                        go_quiet (fail)
                        go_wp2
                        go_meet
                        exact ⟨congrArg Value.bool (decide_eq_true (p := t.length < 3 ∨ x1.toNat < LO ∨ HI < x1.toNat ∨ x2.toNat < 128 ∨ 191 < x2.toNat) (by omega)).symm, below_drewN' ((Below.refl _ _).alloc (Nat.le_refl _) _) _⟩
                      · have q4z : ¬ ((191 : Int) < (x2.toNat : Int)) := by omega
                        go_quiet (fail)
                        go_wp2
                        go_meet
                        exact ⟨congrArg Value.bool (decide_eq_false (p := t.length < 3 ∨ x1.toNat < LO ∨ HI < x1.toNat ∨ x2.toNat < 128 ∨ 191 < x2.toNat) (by omega)).symm, below_drewN' ((Below.refl _ _).alloc (Nat.le_refl _) _) _⟩
            case rest =>
              obtain ⟨rfl, hbc⟩ := hcut
              by_cases hb : t.length < 3 ∨ x1.toNat < LO ∨ HI < x1.toNat ∨ x2.toNat < 128 ∨ 191 < x2.toNat
              · have hbd : decide (t.length < 3 ∨ x1.toNat < LO ∨ HI < x1.toNat ∨ x2.toNat < 128 ∨ 191 < x2.toNat) = true := decide_eq_true hb
                have hans : ANS = false := by have h := HLEAD.out; rwa [if_pos hb] at h
                have HANS := Lib.hid hans
                clear hans HLEAD
                go_wp2
                all_goals (go_ret; exact ⟨by rw [HANS.out]; rfl, hbw.trans (hbc.mono hbw.size)⟩)
              · have hbd : decide (t.length < 3 ∨ x1.toNat < LO ∨ HI < x1.toNat ∨ x2.toNat < 128 ∨ 191 < x2.toNat) = false := decide_eq_false hb
                have hans : ANS = Lib.validD (t.drop 3) := by have h := HLEAD.out; rwa [if_neg hb] at h
                have HANS := Lib.hid hans
                obtain ⟨A2, s2, r2⟩ := run_rest hrt 3 3 rfl (by omega)
                obtain ⟨t2, ht2⟩ : ∃ t2, t.drop 3 = t2 := ⟨_, rfl⟩
                have HT2 := Lib.hid ht2
                rw [ht2] at s2 r2
                have z2 : t2.length + 3 = t.length := by rw [← ht2, List.length_drop]; omega
                clear hans HLEAD ht2
                go_wp2
                go_roundg g'
                case measure => omega
                case rel => exact ⟨hbw.trans (hbc.mono hbw.size), t2, A2, rfl, r2.below (hbc.mono (by have := hbw.size; omega)), by rw [HANS.out, HT2.out], by omega, by omega⟩
        by_cases s4 : SZ = 4
        · as_aux_lemma =>
            subst s4
            have hSZz : (X : Int) % 8 = 4 := by omega
            have hlead := HLEAD.out
            simp only [Lib.checkN, Nat.reduceEqDiff, if_true, if_false] at hlead
            have HLEAD := Lib.hid hlead
            clear hlead hSZ
            go_upto_region 26 with fail
            go_cut [185] from 143 to 185 (fun c wx => c = .bool (decide (t.length < 4 ∨ x1.toNat < LO ∨ HI < x1.toNat ∨ x2.toNat < 128 ∨ 191 < x2.toNat ∨ x3.toNat < 128 ∨ 191 < x3.toNat)) ∧ Below wr.heap.size wr wx)
            case first =>
              by_cases q0 : t.length < 4
              · have q0z : (t.length : Int) < 4 := by omega
                go_quiet (fail)
                go_wp2
                go_meet
                exact ⟨congrArg Value.bool (decide_eq_true (p := t.length < 4 ∨ x1.toNat < LO ∨ HI < x1.toNat ∨ x2.toNat < 128 ∨ 191 < x2.toNat ∨ x3.toNat < 128 ∨ 191 < x3.toNat) (by omega)).symm, below_drewN' ((Below.refl _ _).alloc (Nat.le_refl _) _) _⟩
              · have q0z : ¬ ((t.length : Int) < 4) := by omega
                have hz1 : (1 : Int) < (t.length : Int) := by omega
                have hp1 : 1 < t.length := by omega
                have e1 := D1.out (by omega)
                have hz2 : (2 : Int) < (t.length : Int) := by omega
                have hp2 : 2 < t.length := by omega
                have e2 := D2.out (by omega)
                have hz3 : (3 : Int) < (t.length : Int) := by omega
                have hp3 : 3 < t.length := by omega
                have e3 := D3.out (by omega)
                by_cases q1 : x1.toNat < LO
                · have q1z : (x1.toNat : Int) < (LO : Int) := by omega
                  go_quiet (fail)
                  go_wp2
                  go_meet
                  exact ⟨congrArg Value.bool (decide_eq_true (p := t.length < 4 ∨ x1.toNat < LO ∨ HI < x1.toNat ∨ x2.toNat < 128 ∨ 191 < x2.toNat ∨ x3.toNat < 128 ∨ 191 < x3.toNat) (by omega)).symm, below_drewN' ((Below.refl _ _).alloc (Nat.le_refl _) _) _⟩
                · have q1z : ¬ ((x1.toNat : Int) < (LO : Int)) := by omega
                  by_cases q2 : HI < x1.toNat
                  · have q2z : (HI : Int) < (x1.toNat : Int) := by omega
                    go_quiet (fail)
                    go_wp2
                    go_meet
                    exact ⟨congrArg Value.bool (decide_eq_true (p := t.length < 4 ∨ x1.toNat < LO ∨ HI < x1.toNat ∨ x2.toNat < 128 ∨ 191 < x2.toNat ∨ x3.toNat < 128 ∨ 191 < x3.toNat) (by omega)).symm, below_drewN' ((Below.refl _ _).alloc (Nat.le_refl _) _) _⟩
                  · have q2z : ¬ ((HI : Int) < (x1.toNat : Int)) := by omega
                    by_cases q3 : x2.toNat < 128
                    · have q3z : (x2.toNat : Int) < 128 := by omega
                      go_quiet (fail)
                      go_wp2
                      go_meet
                      exact ⟨congrArg Value.bool (decide_eq_true (p := t.length < 4 ∨ x1.toNat < LO ∨ HI < x1.toNat ∨ x2.toNat < 128 ∨ 191 < x2.toNat ∨ x3.toNat < 128 ∨ 191 < x3.toNat) (by omega)).symm, below_drewN' ((Below.refl _ _).alloc (Nat.le_refl _) _) _⟩
                    · have q3z : ¬ ((x2.toNat : Int) < 128) := by omega
                      by_cases q4 : 191 < x2.toNat
                      · have q4z : (191 : Int) < (x2.toNat : Int) := by omega
                        go_quiet (fail)
                        go_wp2
                        go_meet
                        exact ⟨congrArg Value.bool (decide_eq_true (p := t.length < 4 ∨ x1.toNat < LO ∨ HI < x1.toNat ∨ x2.toNat < 128 ∨ 191 < x2.toNat ∨ x3.toNat < 128 ∨ 191 < x3.toNat) (by omega)).symm, below_drewN' ((Below.refl _ _).alloc (Nat.le_refl _) _) _⟩
                      · have q4z : ¬ ((191 : Int) < (x2.toNat : Int)) := by omega
                        by_cases q5 : x3.toNat < 128
                        · have q5z : (x3.toNat : Int) < 128 := by omega
                          go_quiet (fail)
                          go_wp2
                          go_meet
                          exact ⟨congrArg Value.bool (decide_eq_true (p := t.length < 4 ∨ x1.toNat < LO ∨ HI < x1.toNat ∨ x2.toNat < 128 ∨ 191 < x2.toNat ∨ x3.toNat < 128 ∨ 191 < x3.toNat) (by omega)).symm, below_drewN' ((Below.refl _ _).alloc (Nat.le_refl _) _) _⟩
                        · have q5z : ¬ ((x3.toNat : Int) < 128) := by omega
                          by_cases q6 : 191 < x3.toNat
                          · have q6z : (191 : Int) < (x3.toNat : Int) := by omega
                            go_quiet (fail)
                            go_wp2
                            go_meet
                            exact ⟨congrArg Value.bool (decide_eq_true (p := t.length < 4 ∨ x1.toNat < LO ∨ HI < x1.toNat ∨ x2.toNat < 128 ∨ 191 < x2.toNat ∨ x3.toNat < 128 ∨ 191 < x3.toNat) (by omega)).symm, below_drewN' ((Below.refl _ _).alloc (Nat.le_refl _) _) _⟩
                          · have q6z : ¬ ((191 : Int) < (x3.toNat : Int)) := by omega
                            go_quiet (fail)
                            go_wp2
                            go_meet
                            exact ⟨congrArg Value.bool (decide_eq_false (p := t.length < 4 ∨ x1.toNat < LO ∨ HI < x1.toNat ∨ x2.toNat < 128 ∨ 191 < x2.toNat ∨ x3.toNat < 128 ∨ 191 < x3.toNat) (by omega)).symm, below_drewN' ((Below.refl _ _).alloc (Nat.le_refl _) _) _⟩
            case rest =>
              obtain ⟨rfl, hbc⟩ := hcut
              by_cases hb : t.length < 4 ∨ x1.toNat < LO ∨ HI < x1.toNat ∨ x2.toNat < 128 ∨ 191 < x2.toNat ∨ x3.toNat < 128 ∨ 191 < x3.toNat
              · have hbd : decide (t.length < 4 ∨ x1.toNat < LO ∨ HI < x1.toNat ∨ x2.toNat < 128 ∨ 191 < x2.toNat ∨ x3.toNat < 128 ∨ 191 < x3.toNat) = true := decide_eq_true hb
                have hans : ANS = false := by have h := HLEAD.out; rwa [if_pos hb] at h
                have HANS := Lib.hid hans
                clear hans HLEAD
                go_wp2
                all_goals (go_ret; exact ⟨by rw [HANS.out]; rfl, hbw.trans (hbc.mono hbw.size)⟩)
              · have hbd : decide (t.length < 4 ∨ x1.toNat < LO ∨ HI < x1.toNat ∨ x2.toNat < 128 ∨ 191 < x2.toNat ∨ x3.toNat < 128 ∨ 191 < x3.toNat) = false := decide_eq_false hb
                have hans : ANS = Lib.validD (t.drop 4) := by have h := HLEAD.out; rwa [if_neg hb] at h
                have HANS := Lib.hid hans
                obtain ⟨A2, s2, r2⟩ := run_rest hrt 4 4 rfl (by omega)
                obtain ⟨t2, ht2⟩ : ∃ t2, t.drop 4 = t2 := ⟨_, rfl⟩
                have HT2 := Lib.hid ht2
                rw [ht2] at s2 r2
                have z2 : t2.length + 4 = t.length := by rw [← ht2, List.length_drop]; omega
                clear hans HLEAD ht2
                go_wp2
                go_roundg g'
                case measure => omega
                case rel => exact ⟨hbw.trans (hbc.mono hbw.size), t2, A2, rfl, r2.below (hbc.mono (by have := hbw.size; omega)), by rw [HANS.out, HT2.out], by omega, by omega⟩
        have s2z : ¬ ((X : Int) % 8 = 2) := by omega
        have s3z : ¬ ((X : Int) % 8 = 3) := by omega
        have s4z : ¬ ((X : Int) % 8 = 4) := by omega
        have hans : ANS = false := by have h := HLEAD.out; simpa [Lib.checkN, s2, s3, s4] using h
        have HANS := Lib.hid hans
        clear hans HLEAD hSZ
        go_wp2
        all_goals (go_ret; exact ⟨by rw [HANS.out]; rfl, below_drewN' (hbw.alloc hbw.size _) 0⟩)
    · have h0z : ¬ ((0 : Int) < (t.length : Int)) := by omega
      have ht : t = [] := List.eq_nil_of_length_eq_zero (by omega)
      have hans : ANS = true := by rw [← hv, ht]; rfl
      have HANS := Lib.hid hans
      clear hans ht hv hTr hT
      go_wp2
      all_goals (go_ret; exact ⟨by rw [HANS.out]; rfl, hbw⟩)
end Go.Proofs.YtnbaajplelchjaaGreatDoor
