/- Part 9 of a proof: lemmas and walks. -/
import Derived.Test.YtpjjnmdfgcfnmaaDoorK6
import Derived.Lib.ValidAsc
import Derived.Lib.EndianBits
import Derived.Lib.Endian
import Derived.Deep.QuietTactic
import Derived.BigQuiet
import Derived.WalkSmall
import Derived.Shelf.Unicode.DecodeSlow
import Derived.Laws.BitsAllLaws
import Derived.Deep.LoopGhost
import Derived.Deep.DeepMust
import Derived.Deep.CutBlock
import Derived.Deep.DeepCutAuto
import Derived.Test.YtpjjnmdfgcfnmaaDoorK8
import Derived.Defers
import Derived.Recover
import Derived.Lib.Builder
set_option linter.unusedVariables false
set_option linter.unusedSimpArgs false
set_option maxRecDepth 100000
set_option maxHeartbeats 16000000
namespace Go.Proofs.YtpjjnmdfgcfnmaaDoor
open Go.RowKit

theorem get_plain {w : World} {b off : Nat} {l : List UInt8} (hc : ∀ j u, (bcells l)[j]? = some u → w.cell? ⟨b, off + j, none⟩ = some u) (k : Nat) (hk : k < l.length) : w.cell? ⟨b, off + k, none⟩ = some (.int .u8 ((l.getD k 0).toNat : Int)) := by
 refine hc k _ ?_
 rw [bcells_get, List.getElem?_eq_getElem hk]
 simp [List.getD_eq_getElem?_getD, List.getElem?_eq_getElem hk]

theorem take8_list (l : List UInt8) (h : 8 ≤ l.length) : l.take 8 = [l.getD 0 0, l.getD 1 0, l.getD 2 0, l.getD 3 0, l.getD 4 0, l.getD 5 0, l.getD 6 0, l.getD 7 0] := by
 match l, h with
 | a0 :: a1 :: a2 :: a3 :: a4 :: a5 :: a6 :: a7 :: r, _ => simp

theorem word_any (A : Option Addr) (n c B : Nat) (l : List UInt8) (w : World) (hr : Reads w B 1 A n (bcells l)) (hn : 8 ≤ n) :
 Calls Tryd.prog 107 #[.slice A n c] w fun e w' => e = .returned (.int .u64 (Lib.leNat (l.take 8))) ∧ ∃ q, w' = w.drewN q := by
 have hl : l.length = n := by have := hr.1; rw [bcells_length] at this; omega
 obtain ⟨b, off, rfl, _, hc⟩ := hr.plain (by omega) (by decide)
 have T8 := take8_list l (by omega)
 have c0 := get_plain hc 0 (by omega)
 have c1 := get_plain hc 1 (by omega)
 have c2 := get_plain hc 2 (by omega)
 have c3 := get_plain hc 3 (by omega)
 have c4 := get_plain hc 4 (by omega)
 have c5 := get_plain hc 5 (by omega)
 have c6 := get_plain hc 6 (by omega)
 have c7 := get_plain hc 7 (by omega)
 simp only [Nat.add_zero] at c0
 clear hc hr
 generalize l.getD 0 0 = x0 at T8 c0
 have h0 : x0.toNat < 256 := x0.toNat_lt
 generalize l.getD 1 0 = x1 at T8 c1
 have h1 : x1.toNat < 256 := x1.toNat_lt
 generalize l.getD 2 0 = x2 at T8 c2
 have h2 : x2.toNat < 256 := x2.toNat_lt
 generalize l.getD 3 0 = x3 at T8 c3
 have h3 : x3.toNat < 256 := x3.toNat_lt
 generalize l.getD 4 0 = x4 at T8 c4
 have h4 : x4.toNat < 256 := x4.toNat_lt
 generalize l.getD 5 0 = x5 at T8 c5
 have h5 : x5.toNat < 256 := x5.toNat_lt
 generalize l.getD 6 0 = x6 at T8 c6
 have h6 : x6.toNat < 256 := x6.toNat_lt
 generalize l.getD 7 0 = x7 at T8 c7
 have h7 : x7.toNat < 256 := x7.toNat_lt
 have hv : ((Lib.leNat (l.take 8) : Nat) : Int) = (x0.toNat : Int) + (x1.toNat : Int) * 256 + (x2.toNat : Int) * 65536 + (x3.toNat : Int) * 16777216 + (x4.toNat : Int) * 4294967296 + (x5.toNat : Int) * 1099511627776 + (x6.toNat : Int) * 281474976710656 + (x7.toNat : Int) * 72057594037927936 := by
  rw [T8]
  simp only [Lib.leNat]
  push_cast
  omega
 have HV := Hi hv
 clear hv T8
 have q0 : (0 : Int) < (n : Int) := by omega
 have p0 : 0 < n := by omega
 have q1 : (1 : Int) < (n : Int) := by omega
 have p1 : 1 < n := by omega
 have q2 : (2 : Int) < (n : Int) := by omega
 have p2 : 2 < n := by omega
 have q3 : (3 : Int) < (n : Int) := by omega
 have p3 : 3 < n := by omega
 have q4 : (4 : Int) < (n : Int) := by omega
 have p4 : 4 < n := by omega
 have q5 : (5 : Int) < (n : Int) := by omega
 have p5 : 5 < n := by omega
 have q6 : (6 : Int) < (n : Int) := by omega
 have p6 : 6 < n := by omega
 have q7 : (7 : Int) < (n : Int) := by omega
 have p7 : 7 < n := by omega
 clear hl
 go_enter Tryd.func107, Tryd.ntmps107
 go_wp2
 go_quiet (fail)
 go_wp2
 go_ret
 refine ⟨?_, _, rfl⟩
 simp (disch := omega) only [u64_wrap_id, u64_or8, u64_or16, u64_or24, u64_or32, u64_or40, u64_or48, u64_or56]
 rw [HV.out]
 rfl

def AscL (t : List UInt8) (k : Nat) : Prop := ∀ b ∈ t.take k, b.toNat < 128
theorem word_ascL (t : List UInt8) (h : 8 ≤ t.length) : (Lib.leNat (t.take 8) &&& 9259542123273814144 = 0) ↔ AscL t 8 := by
 have h8 : (t.take 8).length = 8 := by rw [List.length_take]; omega
 have := Lib.leNat_mask (t.take 8)
 rw [h8, Lib.maskN8] at this
 exact this
theorem word_ltL (t : List UInt8) (h : 8 ≤ t.length) : Lib.leNat (t.take 8) < 18446744073709551616 := by
 have h8 : (t.take 8).length = 8 := by rw [List.length_take]; omega
 have h := Lib.leNat_lt (t.take 8)
 rw [h8] at h
 simpa using h
theorem asc_addL (t : List UInt8) (a b : Nat) (ha : AscL t a) (hb : AscL (t.drop a) b) : AscL t (a + b) := by
 unfold AscL at *
 rw [List.take_add]
 intro x hx
 rcases List.mem_append.1 hx with h | h
 · exact ha x h
 · exact hb x h
theorem valid_skipL (t : List UInt8) (k : Nat) (h : AscL t k) : Lib.validD (t.drop k) = Lib.validD t := (Lib.validD_ascii k _ h).symm
theorem asc_oneL (t : List UInt8) (h0 : 0 < t.length) (h : (t.getD 0 0).toNat < 128) : AscL t 1 := by
 match t, h0 with
 | a :: r, _ =>
   intro b hb
   simp at hb h
   subst hb
   exact h
theorem and7L : ∀ X : _root_.Fin 256, bits .and .u8 ((X.val : Nat) : Int) 7 = ((X.val % 8 : Nat) : Int) := by decide

theorem reads_rest {w : World} {B k : Nat} {A : Option Addr} {t : List UInt8} (h : Reads w B 1 A t.length (bcells t)) (hk : k ≤ t.length) : Reads w B 1 (if t.length = k then A else A.map (·.add k)) (t.drop k).length (bcells (t.drop k)) := by
 have := h.cut hk zR
 rw [Nat.mul_one] at this
 have e : (bcells t).drop k = bcells (t.drop k) := by simp [bcells]
 rwa [e, ← List.length_drop] at this

theorem run_rest {w : World} {B : Nat} {A : Option Addr} {t : List UInt8} (h : Reads w B 1 A t.length (bcells t)) (k : Nat) (z : Int) (hz : z = k) (hk : k ≤ t.length) : ∃ A1, (∀ W : World, (Instr.sliceAt 22 (.slice A t.length t.length) (some (.int .i64 z)) none none).run Tryd.prog W = .ok (.slice A1 (t.drop k).length (t.drop k).length) W) ∧ Reads w B 1 A1 (t.drop k).length (bcells (t.drop k)) := by
 subst hz
 refine ⟨_, fun W => ?_, reads_rest h hk⟩
 rw [List.length_drop]
 by_cases e : t.length = k
 · subst e
   simp [go_sem]
 · simp [go_sem, e]
   intro hlt
   omega

theorem word_at {w : World} {B : Nat} {A : Option Addr} {t : List UInt8} (h : Reads w B 1 A t.length (bcells t)) (h8 : 8 ≤ t.length) {N : Nat} (hN : Lib.leNat (t.take 8) = N) :
 Calls Tryd.prog 107 #[.slice A t.length t.length] w fun e w' => e = .returned (.int .u64 N) ∧ ∃ q, w' = w.drewN q := by
 subst hN
 exact word_any A _ _ B t _ h h8
theorem word_quiet {w : World} {B : Nat} {A : Option Addr} {t : List UInt8} (h : Reads w B 1 A t.length (bcells t)) (h8 : 8 ≤ t.length) {N : Nat} (hN : Lib.leNat (t.take 8) = N) (k : Nat) :
 Calls Tryd.prog 107 #[.slice A t.length t.length] (w.drewN k) fun e w' => e = .returned (.int .u64 N) ∧ ∃ q, w' = (w.drewN k).drewN q := by
 subst hN
 exact word_any A _ _ B t _ (h.drewN k) h8

theorem valid_any (A : Option Addr) (n c B : Nat) (l : List UInt8) (w : World) (hr : Reads w B 1 A n (bcells l)) (hnc : n ≤ c) (hn : n ≤ 140737488355328) (hB : B ≤ w.heap.size) (hT : Lib.Utf8Tabs 0 1 w) :
 Calls Tryd.prog 102 #[.slice A n c] w fun e w' => e = .returned (.bool (Lib.validD l)) ∧ Below w.heap.size w w' := by
 have hl : l.length = n := by have := hr.1; rw [bcells_length] at this; omega
 subst hl
 obtain ⟨ANS, hANS⟩ : ∃ ANS, Lib.validD l = ANS := ⟨_, rfl⟩
 rw [hANS]
 go_enter Tryd.func102, Tryd.ntmps102
 go_wp2
 go_loopg [0] (l.length + 1) (fun gk s0 wx => Below w.heap.size w wx ∧ ∃ (t : List UInt8) (A : Option Addr), s0 = .slice A t.length t.length ∧ Reads wx B 1 A t.length (bcells t) ∧ Lib.validD t = ANS ∧ t.length < gk ∧ t.length ≤ 140737488355328)
 case atStart => exact ⟨Below.refl _ _, l, A, rfl, hr, hANS, by omega, hn⟩
 case round =>
  obtain ⟨hbw, t, A, rfl, hrt, hv, hg, hts⟩ := hrel
  clear hANS hr hnc hn
  have hTr := Utf8Tabs_below hT hbw
  by_cases h0 : 0 < t.length
  · obtain ⟨g', rfl⟩ : ∃ g', gk = g' + 1 := ⟨gk - 1, by omega⟩
    have h0z : (0 : Int) < (t.length : Int) := by omega
    obtain ⟨b, off, rfl, hbB, hc⟩ := hrt.plain h0 (by decide)
    have c0 := get_plain hc 0 h0
    rw [Nat.add_zero] at c0
    obtain ⟨x0, hx0⟩ : ∃ x0, t.getD 0 0 = x0 := ⟨_, rfl⟩
    rw [hx0] at c0
    have hx0lt : x0.toNat < 256 := x0.toNat_lt
    have hbl : b < wr.heap.size := by have := hbw.size; omega
    by_cases hasc : x0.toNat < 128
    · as_aux_lemma =>
       have hascz : (x0.toNat : Int) < 128 := by omega
       have a1 : AscL t 1 := asc_oneL t h0 (by rw [hx0]; exact hasc)
       obtain ⟨A1, s1, r1⟩ := run_rest hrt 1 1 rfl (by omega)
       obtain ⟨t1, ht1⟩ : ∃ t1, t.drop 1 = t1 := ⟨_, rfl⟩
       rw [ht1] at s1 r1
       have z1 : t1.length + 1 = t.length := by rw [← ht1, List.length_drop]; omega
       have v1 : Lib.validD t1 = ANS := by rw [← ht1, valid_skipL t 1 a1]; exact hv
       clear hTr hT hv a1 hc hx0 ht1
       by_cases c8 : 8 < t1.length
       · have c8z : (8 : Int) < (t1.length : Int) := by omega
         obtain ⟨W1, hW1⟩ : ∃ N, Lib.leNat (t1.take 8) = N := ⟨_, rfl⟩
         have lW1 : W1 < 18446744073709551616 := hW1 ▸ word_ltL t1 (by omega)
         have kW1 := word_ascL t1 (by omega)
         rw [hW1] at kW1
         have cW1 := word_at r1 (by omega) hW1
         have hand1 : bits .and .u64 (W1 : Int) 9259542123273814144 = ((W1 &&& 9259542123273814144 : Nat) : Int) := u64_and_nat W1 9259542123273814144 lW1 (by omega)
         obtain ⟨Z1, hZ1⟩ : ∃ Z1, W1 &&& 9259542123273814144 = Z1 := ⟨_, rfl⟩
         rw [hZ1] at hand1 kW1
         clear hW1 hZ1
         by_cases hz1 : Z1 = 0
         · have hz1b : ((Z1 : Int) == 0) = true := by simp [hz1]
           have a8 : AscL t1 8 := kW1.1 hz1
           obtain ⟨A2, s2, r2⟩ := run_rest r1 8 8 rfl (by omega)
           obtain ⟨t2, ht2⟩ : ∃ t', t1.drop 8 = t' := ⟨_, rfl⟩
           rw [ht2] at s2 r2
           have z2 : t2.length + 8 = t1.length := by rw [← ht2, List.length_drop]; omega
           have v2 : Lib.validD t2 = ANS := by rw [← ht2, valid_skipL t1 8 a8]; exact v1
           clear kW1 a8 v1 ht2
           go_wp2_with (go_at_call 107; go_must (refine (cW1).mono ?_; rintro e W1 ⟨rfl, q1, rfl⟩))
           have hb1 : Below w.heap.size w (wr.drewN q1) := below_drewN' hbw q1
           have r2 := r2.drewN q1
           generalize hwq : wr.drewN q1 = wq at hb1 r2 ⊢
           clear cW1 hbw hwq hrt r1 c0
           by_cases c16 : 16 < t2.length
           · as_aux_lemma =>
              have c16z : (16 : Int) < (t2.length : Int) := by omega
              obtain ⟨A2b, s2b, r2b⟩ := run_rest r2 8 8 rfl (by omega)
              obtain ⟨t2b, ht2b⟩ : ∃ t', t2.drop 8 = t' := ⟨_, rfl⟩
              rw [ht2b] at s2b r2b
              have z2b : t2b.length + 8 = t2.length := by rw [← ht2b, List.length_drop]; omega
              obtain ⟨W2, hW2⟩ : ∃ N, Lib.leNat (t2.take 8) = N := ⟨_, rfl⟩
              have lW2 : W2 < 18446744073709551616 := hW2 ▸ word_ltL t2 (by omega)
              have kW2 := word_ascL t2 (by omega)
              rw [hW2] at kW2
              obtain ⟨W3, hW3⟩ : ∃ N, Lib.leNat (t2b.take 8) = N := ⟨_, rfl⟩
              have lW3 : W3 < 18446744073709551616 := hW3 ▸ word_ltL t2b (by omega)
              have kW3 := word_ascL t2b (by omega)
              rw [hW3] at kW3
              have cW2 := word_quiet r2 (by omega) hW2
              have cW3 := word_quiet r2b (by omega) hW3
              have hor2 : bits .or .u64 (W2 : Int) (W3 : Int) = ((W2 ||| W3 : Nat) : Int) := u64_or_nat W2 W3 lW2 lW3
              have lor2 : W2 ||| W3 < 18446744073709551616 := Nat.or_lt_two_pow (n := 64) lW2 lW3
              have hand2 : bits .and .u64 ((W2 ||| W3 : Nat) : Int) 9259542123273814144 = (((W2 ||| W3) &&& 9259542123273814144 : Nat) : Int) := u64_and_nat _ 9259542123273814144 lor2 (by omega)
              have k2 : (W2 ||| W3) &&& 9259542123273814144 = 0 → AscL t2 16 := fun h0' => by
               obtain ⟨e1, e2⟩ := (Lib.or_mask W2 W3 _).1 h0'
               exact asc_addL t2 8 8 (kW2.1 e1) (by rw [ht2b]; exact kW3.1 e2)
              obtain ⟨O2, hO2⟩ : ∃ O2, W2 ||| W3 = O2 := ⟨_, rfl⟩
              rw [hO2] at hor2 hand2 k2
              obtain ⟨Z2, hZ2⟩ : ∃ Z2, O2 &&& 9259542123273814144 = Z2 := ⟨_, rfl⟩
              rw [hZ2] at hand2 k2
              clear kW2 kW3 lor2 hO2 hZ2 hW2 hW3 ht2b
              by_cases hz2 : Z2 = 0
              · have hz2b : ((Z2 : Int) == 0) = true := by simp [hz2]
                have a16 := k2 hz2
                obtain ⟨A3, s3, r3⟩ := run_rest r2 16 16 rfl (by omega)
                obtain ⟨t3, ht3⟩ : ∃ t', t2.drop 16 = t' := ⟨_, rfl⟩
                rw [ht3] at s3 r3
                have z3 : t3.length + 16 = t2.length := by rw [← ht3, List.length_drop]; omega
                have v3 : Lib.validD t3 = ANS := by rw [← ht3, valid_skipL t2 16 a16]; exact v2
                clear k2 a16 v2 ht3
                go_quiet ((with_reducible (first | (go_at_call 107; refine Calls.quiet_of (cW2 _)) | (go_at_call 107; refine Calls.quiet_of (cW3 _)))))
                have hb2 : Below w.heap.size w (wq.drewN nq) := below_drewN' hb1 nq
                have r3 := r3.drewN nq
                generalize hwq2 : wq.drewN nq = wq2 at hb2 r3 ⊢
                clear cW2 cW3 hb1 hwq2 r2 r2b
                go_wp2
                go_loopg [0] (t3.length + 1) (fun g2 s0 wx => Below w.heap.size w wx ∧ ∃ (u : List UInt8) (A : Option Addr), s0 = .slice A u.length u.length ∧ Reads wx B 1 A u.length (bcells u) ∧ Lib.validD u = ANS ∧ u.length < g2 ∧ u.length ≤ t3.length)
                case atStart => exact ⟨hb2, t3, A3, rfl, r3, v3, by omega, Nat.le_refl _⟩
                case round =>
                 clear hb2 r3 v3
                 obtain ⟨hbu, u, Au, rfl, ru, vu, hgu, hut⟩ := hrel
                 by_cases c32 : 32 < u.length
                 · as_aux_lemma =>
                    obtain ⟨g3, rfl⟩ : ∃ g3, gk = g3 + 1 := ⟨gk - 1, by omega⟩
                    have c32z : (32 : Int) < (u.length : Int) := by omega
                    obtain ⟨Aub, sub, rub⟩ := run_rest ru 8 8 rfl (by omega)
                    obtain ⟨ub, hub⟩ : ∃ t', u.drop 8 = t' := ⟨_, rfl⟩
                    rw [hub] at sub rub
                    have zub : ub.length + 8 = u.length := by rw [← hub, List.length_drop]; omega
                    obtain ⟨Auc, suc, ruc⟩ := run_rest ru 16 16 rfl (by omega)
                    obtain ⟨uc, huc⟩ : ∃ t', u.drop 16 = t' := ⟨_, rfl⟩
                    rw [huc] at suc ruc
                    have zuc : uc.length + 16 = u.length := by rw [← huc, List.length_drop]; omega
                    obtain ⟨Aud, sud, rud⟩ := run_rest ru 24 24 rfl (by omega)
                    obtain ⟨ud, hud⟩ : ∃ t', u.drop 24 = t' := ⟨_, rfl⟩
                    rw [hud] at sud rud
                    have zud : ud.length + 24 = u.length := by rw [← hud, List.length_drop]; omega
                    obtain ⟨B0, hB0⟩ : ∃ N, Lib.leNat (u.take 8) = N := ⟨_, rfl⟩
                    have lB0 : B0 < 18446744073709551616 := hB0 ▸ word_ltL u (by omega)
                    have kB0 := word_ascL u (by omega)
                    rw [hB0] at kB0
                    have cB0 := word_quiet ru (by omega) hB0
                    obtain ⟨B1, hB1⟩ : ∃ N, Lib.leNat (ub.take 8) = N := ⟨_, rfl⟩
                    have lB1 : B1 < 18446744073709551616 := hB1 ▸ word_ltL ub (by omega)
                    have kB1 := word_ascL ub (by omega)
                    rw [hB1] at kB1
                    have cB1 := word_quiet rub (by omega) hB1
                    obtain ⟨B2, hB2⟩ : ∃ N, Lib.leNat (uc.take 8) = N := ⟨_, rfl⟩
                    have lB2 : B2 < 18446744073709551616 := hB2 ▸ word_ltL uc (by omega)
                    have kB2 := word_ascL uc (by omega)
                    rw [hB2] at kB2
                    have cB2 := word_quiet ruc (by omega) hB2
                    obtain ⟨B3, hB3⟩ : ∃ N, Lib.leNat (ud.take 8) = N := ⟨_, rfl⟩
                    have lB3 : B3 < 18446744073709551616 := hB3 ▸ word_ltL ud (by omega)
                    have kB3 := word_ascL ud (by omega)
                    rw [hB3] at kB3
                    have cB3 := word_quiet rud (by omega) hB3
                    have ho1 : bits .or .u64 (B0 : Int) (B1 : Int) = ((B0 ||| B1 : Nat) : Int) := u64_or_nat B0 B1 lB0 lB1
                    have ho2 : bits .or .u64 (B2 : Int) (B3 : Int) = ((B2 ||| B3 : Nat) : Int) := u64_or_nat B2 B3 lB2 lB3
                    have lo1 : B0 ||| B1 < 18446744073709551616 := Nat.or_lt_two_pow (n := 64) lB0 lB1
                    have lo2 : B2 ||| B3 < 18446744073709551616 := Nat.or_lt_two_pow (n := 64) lB2 lB3
                    have ho3 : bits .or .u64 ((B0 ||| B1 : Nat) : Int) ((B2 ||| B3 : Nat) : Int) = (((B0 ||| B1) ||| (B2 ||| B3) : Nat) : Int) := u64_or_nat _ _ lo1 lo2
                    have lo3 : (B0 ||| B1) ||| (B2 ||| B3) < 18446744073709551616 := Nat.or_lt_two_pow (n := 64) lo1 lo2
                    have hand3 : bits .and .u64 (((B0 ||| B1) ||| (B2 ||| B3) : Nat) : Int) 9259542123273814144 = ((((B0 ||| B1) ||| (B2 ||| B3)) &&& 9259542123273814144 : Nat) : Int) := u64_and_nat _ 9259542123273814144 lo3 (by omega)
                    have k3 : ((B0 ||| B1) ||| (B2 ||| B3)) &&& 9259542123273814144 = 0 → AscL u 32 := fun h0' => by
                     obtain ⟨e01, e23⟩ := (Lib.or_mask _ _ _).1 h0'
                     obtain ⟨e0, e1⟩ := (Lib.or_mask _ _ _).1 e01
                     obtain ⟨e2, e3⟩ := (Lib.or_mask _ _ _).1 e23
                     have s16 : AscL u 16 := asc_addL u 8 8 (kB0.1 e0) (by rw [hub]; exact kB1.1 e1)
                     have s24 : AscL u 24 := asc_addL u 16 8 s16 (by rw [huc]; exact kB2.1 e2)
                     exact asc_addL u 24 8 s24 (by rw [hud]; exact kB3.1 e3)
                    obtain ⟨P1, hP1⟩ : ∃ P1, B0 ||| B1 = P1 := ⟨_, rfl⟩
                    obtain ⟨P2, hP2⟩ : ∃ P2, B2 ||| B3 = P2 := ⟨_, rfl⟩
                    rw [hP1, hP2] at ho3 hand3 k3
                    rw [hP1] at ho1
                    rw [hP2] at ho2
                    obtain ⟨P3, hP3⟩ : ∃ P3, P1 ||| P2 = P3 := ⟨_, rfl⟩
                    rw [hP3] at ho3 hand3 k3
                    obtain ⟨Z3, hZ3⟩ : ∃ Z3, P3 &&& 9259542123273814144 = Z3 := ⟨_, rfl⟩
                    rw [hZ3] at hand3 k3
                    clear kB0 kB1 kB2 kB3 lo1 lo2 lo3 hP1 hP2 hP3 hZ3 hB0 hB1 hB2 hB3 hub huc hud
                    by_cases hz3 : Z3 = 0
                    · as_aux_lemma =>
                       have hz3b : ((Z3 : Int) == 0) = true := by simp [hz3]
                       have a32 := k3 hz3
                       obtain ⟨Au2, su2, ru2⟩ := run_rest ru 32 32 rfl (by omega)
                       obtain ⟨u2, hu2⟩ : ∃ t', u.drop 32 = t' := ⟨_, rfl⟩
                       rw [hu2] at su2 ru2
                       have zu2 : u2.length + 32 = u.length := by rw [← hu2, List.length_drop]; omega
                       have vu2 : Lib.validD u2 = ANS := by rw [← hu2, valid_skipL u 32 a32]; exact vu
                       clear hu2 k3 a32 vu
                       go_wp2_with fail
                       go_quiet ((with_reducible (first | (go_at_call 107; refine Calls.quiet_of (cB0 _)) | (go_at_call 107; refine Calls.quiet_of (cB1 _)) | (go_at_call 107; refine Calls.quiet_of (cB2 _)) | (go_at_call 107; refine Calls.quiet_of (cB3 _)))))
                       go_wp2
                       go_roundg g3
                       case measure => omega
                       case rel => exact ⟨below_drewN' hbu nq, u2, Au2, rfl, ru2.drewN nq, vu2, by omega, by omega⟩
                    · have hz3b : ((Z3 : Int) == 0) = false := by simp; omega
                      go_wp2_with fail
                      go_quiet ((with_reducible (first | (go_at_call 107; refine Calls.quiet_of (cB0 _)) | (go_at_call 107; refine Calls.quiet_of (cB1 _)) | (go_at_call 107; refine Calls.quiet_of (cB2 _)) | (go_at_call 107; refine Calls.quiet_of (cB3 _)))))
                      go_wp2
                      go_roundg g'
                      case measure => omega
                      case rel => exact ⟨below_drewN' hbu nq, u, Au, rfl, ru.drewN nq, vu, by omega, by omega⟩
                 · have c32z : ¬ ((32 : Int) < (u.length : Int)) := by omega
                   have c32b : decide ((32 : Int) < (u.length : Int)) = false := decide_eq_false c32z
                   go_wp2_with fail
                   go_quiet (fail)
                   go_wp2
                   go_roundg g'
                   case measure => omega
                   case rel => exact ⟨below_drewN' hbu nq, u, Au, rfl, ru.drewN nq, vu, by omega, by omega⟩
              · have hz2b : ((Z2 : Int) == 0) = false := by simp; omega
                go_quiet ((with_reducible (first | (go_at_call 107; refine Calls.quiet_of (cW2 _)) | (go_at_call 107; refine Calls.quiet_of (cW3 _)))))
                go_wp2
                go_roundg g'
                case measure => omega
                case rel => exact ⟨below_drewN' hb1 nq, t2, A2, rfl, r2.drewN nq, v2, by omega, by omega⟩
           · have c16z : ¬ ((16 : Int) < (t2.length : Int)) := by omega
             have c16b : decide ((16 : Int) < (t2.length : Int)) = false := decide_eq_false c16z
             go_quiet (fail)
             go_wp2
             go_roundg g'
             case measure => omega
             case rel => exact ⟨below_drewN' hb1 nq, t2, A2, rfl, r2.drewN nq, v2, by omega, by omega⟩
         · have hz1b : ((Z1 : Int) == 0) = false := by simp; omega
           go_wp2_with (go_at_call 107; go_must (refine (cW1).mono ?_; rintro e W1 ⟨rfl, q1, rfl⟩))
           go_roundg g'
           case measure => omega
           case rel => exact ⟨below_drewN' hbw q1, t1, A1, rfl, r1.drewN q1, v1, by omega, by omega⟩
       · have c8z : ¬ ((8 : Int) < (t1.length : Int)) := by omega
         go_wp2
         go_roundg g'
         case measure => omega
         case rel => exact ⟨hbw, t1, A1, rfl, r1, v1, by omega, by omega⟩
    · have hge : 128 ≤ x0.toNat := by omega
      have hascz : ¬ ((x0.toNat : Int) < 128) := by omega
      obtain ⟨x1, hx1⟩ : ∃ x1, t.getD 1 0 = x1 := ⟨_, rfl⟩
      obtain ⟨x2, hx2⟩ : ∃ x2, t.getD 2 0 = x2 := ⟨_, rfl⟩
      obtain ⟨x3, hx3⟩ : ∃ x3, t.getD 3 0 = x3 := ⟨_, rfl⟩
      have l1 := x1.toNat_lt; have l2 := x2.toNat_lt; have l3 := x3.toNat_lt
      have hne : t ≠ [] := fun h => by rw [h] at h0; simp at h0
      have hlead := Lib.validD_lead t hne (by rw [hx0]; exact hge)
      rw [hx0, hx1, hx2, hx3, hv] at hlead
      have d1 : 1 < t.length → wr.cell? ⟨b, off + 1, none⟩ = some (.int .u8 (x1.toNat : Int)) := fun h => by rw [← hx1]; exact get_plain hc 1 h
      have d2 : 2 < t.length → wr.cell? ⟨b, off + 2, none⟩ = some (.int .u8 (x2.toNat : Int)) := fun h => by rw [← hx2]; exact get_plain hc 2 h
      have d3 : 3 < t.length → wr.cell? ⟨b, off + 3, none⟩ = some (.int .u8 (x3.toNat : Int)) := fun h => by rw [← hx3]; exact get_plain hc 3 h
      have D1 := Hi d1
      have D2 := Hi d2
      have D3 := Hi d3
      have f0 := hTr.1 x0.toNat hx0lt
      have hXlt : Lib.firstT x0.toNat < 256 := by rcases Lib.firstT_cases x0.toNat with h | h | h | h | h | h | h | h | h <;> omega
      obtain ⟨X, hX⟩ : ∃ X, Lib.firstT x0.toNat = X := ⟨_, rfl⟩
      rw [hX] at f0 hXlt hlead
      have h7 := and7L ⟨X, hXlt⟩
      simp only at h7
      have ha0 : wr.cell? ⟨1, X / 16 * 2, none⟩ = some (.int .u8 (Lib.accLo (X / 16))) := by rw [Nat.mul_comm]; exact (hTr.2 (X / 16) (by omega)).1
      have ha1 : wr.cell? ⟨1, X / 16 * 2 + 1, none⟩ = some (.int .u8 (Lib.accHi (X / 16))) := by rw [Nat.mul_comm]; exact (hTr.2 (X / 16) (by omega)).2
      obtain ⟨LO, hLO⟩ : ∃ LO, Lib.accLo (X / 16) = LO := ⟨_, rfl⟩
      obtain ⟨HI, hHI⟩ : ∃ HI, Lib.accHi (X / 16) = HI := ⟨_, rfl⟩
      rw [hLO] at ha0 hlead
      rw [hHI] at ha1 hlead
      obtain ⟨SZ, hSZ⟩ : ∃ SZ, X % 8 = SZ := ⟨_, rfl⟩
      rw [hSZ] at hlead
      have HLEAD := Hi hlead
      clear hTr hT hX hv hLO hHI hne d1 d2 d3 hc hx0 hx1 hx2 hx3 hlead
      by_cases s2 : SZ = 2
      · as_aux_lemma =>
         subst s2
         have hSZz : (X : Int) % 8 = 2 := by omega
         have hlead := HLEAD.out
         simp only [Lib.checkN, Nat.reduceEqDiff, if_true, if_false] at hlead
         have HLEAD := Hi hlead
         clear hlead hSZ
         go_upto_region 18 with fail
         go_cut [103] from 85 to 103 (fun c wx => c = .bool (decide (t.length < 2 ∨ x1.toNat < LO ∨ HI < x1.toNat)) ∧ Below wr.heap.size wr wx)
         case first =>
          by_cases q0 : t.length < 2
          · have q0z : (t.length : Int) < 2 := by omega
            go_quiet (fail)
            go_wp2
            go_meet
            exact ⟨congrArg Value.bool (decide_eq_true (p := t.length < 2 ∨ x1.toNat < LO ∨ HI < x1.toNat) (by omega)).symm, below_drewN' (zT.alloc zR _) _⟩
          · have q0z : ¬ ((t.length : Int) < 2) := by omega
            have hz1 : (1 : Int) < (t.length : Int) := by omega
            have hp1 : 1 < t.length := by omega
            have e1 := D1.out (by omega)
            by_cases q1 : x1.toNat < LO
            · have q1z : (x1.toNat : Int) < (LO : Int) := by omega
              go_quiet (fail)
              go_wp2
              go_meet
              exact ⟨congrArg Value.bool (decide_eq_true (p := t.length < 2 ∨ x1.toNat < LO ∨ HI < x1.toNat) (by omega)).symm, below_drewN' (zT.alloc zR _) _⟩
            · have q1z : ¬ ((x1.toNat : Int) < (LO : Int)) := by omega
              by_cases q2 : HI < x1.toNat
              · have q2z : (HI : Int) < (x1.toNat : Int) := by omega
                go_quiet (fail)
                go_wp2
                go_meet
                exact ⟨congrArg Value.bool (decide_eq_true (p := t.length < 2 ∨ x1.toNat < LO ∨ HI < x1.toNat) (by omega)).symm, below_drewN' (zT.alloc zR _) _⟩
              · have q2z : ¬ ((HI : Int) < (x1.toNat : Int)) := by omega
                go_quiet (fail)
                go_wp2
                go_meet
                exact ⟨congrArg Value.bool (decide_eq_false (p := t.length < 2 ∨ x1.toNat < LO ∨ HI < x1.toNat) (by omega)).symm, below_drewN' (zT.alloc zR _) _⟩
         case rest =>
          obtain ⟨rfl, hbc⟩ := hcut
          by_cases hb : t.length < 2 ∨ x1.toNat < LO ∨ HI < x1.toNat
          · have hbd : decide (t.length < 2 ∨ x1.toNat < LO ∨ HI < x1.toNat) = true := decide_eq_true hb
            have hans : ANS = false := by have h := HLEAD.out; rwa [if_pos hb] at h
            have HANS := Hi hans
            clear hans HLEAD
            go_wp2
            all_goals (go_ret; exact ⟨by rw [HANS.out]; rfl, hbw.trans (hbc.mono hbw.size)⟩)
          · have hbd : decide (t.length < 2 ∨ x1.toNat < LO ∨ HI < x1.toNat) = false := decide_eq_false hb
            have hans : ANS = Lib.validD (t.drop 2) := by have h := HLEAD.out; rwa [if_neg hb] at h
            have HANS := Hi hans
            obtain ⟨A2, s2, r2⟩ := run_rest hrt 2 2 rfl (by omega)
            obtain ⟨t2, ht2⟩ : ∃ t2, t.drop 2 = t2 := ⟨_, rfl⟩
            have HT2 := Hi ht2
            rw [ht2] at s2 r2
            have z2 : t2.length + 2 = t.length := by rw [← ht2, List.length_drop]; omega
            clear hans HLEAD ht2
            go_wp2
            go_roundg g'
            case measure => omega
            case rel => exact ⟨hbw.trans (hbc.mono hbw.size), t2, A2, rfl, r2.below (hbc.mono (by have := hbw.size; omega)), by rw [HANS.out, HT2.out], by omega, by omega⟩
      by_cases s3 : SZ = 3
      · as_aux_lemma =>
         subst s3
         have hSZz : (X : Int) % 8 = 3 := by omega
         have hlead := HLEAD.out
         simp only [Lib.checkN, Nat.reduceEqDiff, if_true, if_false] at hlead
         have HLEAD := Hi hlead
         clear hlead hSZ
         go_upto_region 22 with fail
         go_cut [138] from 108 to 138 (fun c wx => c = .bool (decide (t.length < 3 ∨ x1.toNat < LO ∨ HI < x1.toNat ∨ x2.toNat < 128 ∨ 191 < x2.toNat)) ∧ Below wr.heap.size wr wx)
         case first =>
          by_cases q0 : t.length < 3
          · have q0z : (t.length : Int) < 3 := by omega
            go_quiet (fail)
            go_wp2
            go_meet
            exact ⟨congrArg Value.bool (decide_eq_true (p := t.length < 3 ∨ x1.toNat < LO ∨ HI < x1.toNat ∨ x2.toNat < 128 ∨ 191 < x2.toNat) (by omega)).symm, below_drewN' (zT.alloc zR _) _⟩
          · have q0z : ¬ ((t.length : Int) < 3) := by omega
            have hz1 : (1 : Int) < (t.length : Int) := by omega
            have hp1 : 1 < t.length := by omega
            have e1 := D1.out (by omega)
            have hz2 : (2 : Int) < (t.length : Int) := by omega
            have hp2 : 2 < t.length := by omega
            have e2 := D2.out (by omega)
            by_cases q1 : x1.toNat < LO
            · have q1z : (x1.toNat : Int) < (LO : Int) := by omega
              go_quiet (fail)
              go_wp2
              go_meet
              exact ⟨congrArg Value.bool (decide_eq_true (p := t.length < 3 ∨ x1.toNat < LO ∨ HI < x1.toNat ∨ x2.toNat < 128 ∨ 191 < x2.toNat) (by omega)).symm, below_drewN' (zT.alloc zR _) _⟩
            · have q1z : ¬ ((x1.toNat : Int) < (LO : Int)) := by omega
              by_cases q2 : HI < x1.toNat
              · have q2z : (HI : Int) < (x1.toNat : Int) := by omega
                go_quiet (fail)
                go_wp2
                go_meet
                exact ⟨congrArg Value.bool (decide_eq_true (p := t.length < 3 ∨ x1.toNat < LO ∨ HI < x1.toNat ∨ x2.toNat < 128 ∨ 191 < x2.toNat) (by omega)).symm, below_drewN' (zT.alloc zR _) _⟩
              · have q2z : ¬ ((HI : Int) < (x1.toNat : Int)) := by omega
                by_cases q3 : x2.toNat < 128
                · have q3z : (x2.toNat : Int) < 128 := by omega
                  go_quiet (fail)
                  go_wp2
                  go_meet
                  exact ⟨congrArg Value.bool (decide_eq_true (p := t.length < 3 ∨ x1.toNat < LO ∨ HI < x1.toNat ∨ x2.toNat < 128 ∨ 191 < x2.toNat) (by omega)).symm, below_drewN' (zT.alloc zR _) _⟩
                · have q3z : ¬ ((x2.toNat : Int) < 128) := by omega
                  by_cases q4 : 191 < x2.toNat
                  · have q4z : (191 : Int) < (x2.toNat : Int) := by omega
                    go_quiet (fail)
                    go_wp2
                    go_meet
                    exact ⟨congrArg Value.bool (decide_eq_true (p := t.length < 3 ∨ x1.toNat < LO ∨ HI < x1.toNat ∨ x2.toNat < 128 ∨ 191 < x2.toNat) (by omega)).symm, below_drewN' (zT.alloc zR _) _⟩
                  · have q4z : ¬ ((191 : Int) < (x2.toNat : Int)) := by omega
                    go_quiet (fail)
                    go_wp2
                    go_meet
                    exact ⟨congrArg Value.bool (decide_eq_false (p := t.length < 3 ∨ x1.toNat < LO ∨ HI < x1.toNat ∨ x2.toNat < 128 ∨ 191 < x2.toNat) (by omega)).symm, below_drewN' (zT.alloc zR _) _⟩
         case rest =>
          obtain ⟨rfl, hbc⟩ := hcut
          by_cases hb : t.length < 3 ∨ x1.toNat < LO ∨ HI < x1.toNat ∨ x2.toNat < 128 ∨ 191 < x2.toNat
          · have hbd : decide (t.length < 3 ∨ x1.toNat < LO ∨ HI < x1.toNat ∨ x2.toNat < 128 ∨ 191 < x2.toNat) = true := decide_eq_true hb
            have hans : ANS = false := by have h := HLEAD.out; rwa [if_pos hb] at h
            have HANS := Hi hans
            clear hans HLEAD
            go_wp2
            all_goals (go_ret; exact ⟨by rw [HANS.out]; rfl, hbw.trans (hbc.mono hbw.size)⟩)
          · have hbd : decide (t.length < 3 ∨ x1.toNat < LO ∨ HI < x1.toNat ∨ x2.toNat < 128 ∨ 191 < x2.toNat) = false := decide_eq_false hb
            have hans : ANS = Lib.validD (t.drop 3) := by have h := HLEAD.out; rwa [if_neg hb] at h
            have HANS := Hi hans
            obtain ⟨A2, s2, r2⟩ := run_rest hrt 3 3 rfl (by omega)
            obtain ⟨t2, ht2⟩ : ∃ t2, t.drop 3 = t2 := ⟨_, rfl⟩
            have HT2 := Hi ht2
            rw [ht2] at s2 r2
            have z2 : t2.length + 3 = t.length := by rw [← ht2, List.length_drop]; omega
            clear hans HLEAD ht2
            go_wp2
            go_roundg g'
            case measure => omega
            case rel => exact ⟨hbw.trans (hbc.mono hbw.size), t2, A2, rfl, r2.below (hbc.mono (by have := hbw.size; omega)), by rw [HANS.out, HT2.out], by omega, by omega⟩
      by_cases s4 : SZ = 4
      · as_aux_lemma =>
         subst s4
         have hSZz : (X : Int) % 8 = 4 := by omega
         have hlead := HLEAD.out
         simp only [Lib.checkN, Nat.reduceEqDiff, if_true, if_false] at hlead
         have HLEAD := Hi hlead
         clear hlead hSZ
         go_upto_region 26 with fail
         go_cut [185] from 143 to 185 (fun c wx => c = .bool (decide (t.length < 4 ∨ x1.toNat < LO ∨ HI < x1.toNat ∨ x2.toNat < 128 ∨ 191 < x2.toNat ∨ x3.toNat < 128 ∨ 191 < x3.toNat)) ∧ Below wr.heap.size wr wx)
         case first =>
          by_cases q0 : t.length < 4
          · have q0z : (t.length : Int) < 4 := by omega
            go_quiet (fail)
            go_wp2
            go_meet
            exact ⟨congrArg Value.bool (decide_eq_true (p := t.length < 4 ∨ x1.toNat < LO ∨ HI < x1.toNat ∨ x2.toNat < 128 ∨ 191 < x2.toNat ∨ x3.toNat < 128 ∨ 191 < x3.toNat) (by omega)).symm, below_drewN' (zT.alloc zR _) _⟩
          · have q0z : ¬ ((t.length : Int) < 4) := by omega
            have hz1 : (1 : Int) < (t.length : Int) := by omega
            have hp1 : 1 < t.length := by omega
            have e1 := D1.out (by omega)
            have hz2 : (2 : Int) < (t.length : Int) := by omega
            have hp2 : 2 < t.length := by omega
            have e2 := D2.out (by omega)
            have hz3 : (3 : Int) < (t.length : Int) := by omega
            have hp3 : 3 < t.length := by omega
            have e3 := D3.out (by omega)
            by_cases q1 : x1.toNat < LO
            · have q1z : (x1.toNat : Int) < (LO : Int) := by omega
              go_quiet (fail)
              go_wp2
              go_meet
              exact ⟨congrArg Value.bool (decide_eq_true (p := t.length < 4 ∨ x1.toNat < LO ∨ HI < x1.toNat ∨ x2.toNat < 128 ∨ 191 < x2.toNat ∨ x3.toNat < 128 ∨ 191 < x3.toNat) (by omega)).symm, below_drewN' (zT.alloc zR _) _⟩
            · have q1z : ¬ ((x1.toNat : Int) < (LO : Int)) := by omega
              by_cases q2 : HI < x1.toNat
              · have q2z : (HI : Int) < (x1.toNat : Int) := by omega
                go_quiet (fail)
                go_wp2
                go_meet
                exact ⟨congrArg Value.bool (decide_eq_true (p := t.length < 4 ∨ x1.toNat < LO ∨ HI < x1.toNat ∨ x2.toNat < 128 ∨ 191 < x2.toNat ∨ x3.toNat < 128 ∨ 191 < x3.toNat) (by omega)).symm, below_drewN' (zT.alloc zR _) _⟩
              · have q2z : ¬ ((HI : Int) < (x1.toNat : Int)) := by omega
                by_cases q3 : x2.toNat < 128
                · have q3z : (x2.toNat : Int) < 128 := by omega
                  go_quiet (fail)
                  go_wp2
                  go_meet
                  exact ⟨congrArg Value.bool (decide_eq_true (p := t.length < 4 ∨ x1.toNat < LO ∨ HI < x1.toNat ∨ x2.toNat < 128 ∨ 191 < x2.toNat ∨ x3.toNat < 128 ∨ 191 < x3.toNat) (by omega)).symm, below_drewN' (zT.alloc zR _) _⟩
                · have q3z : ¬ ((x2.toNat : Int) < 128) := by omega
                  by_cases q4 : 191 < x2.toNat
                  · have q4z : (191 : Int) < (x2.toNat : Int) := by omega
                    go_quiet (fail)
                    go_wp2
                    go_meet
                    exact ⟨congrArg Value.bool (decide_eq_true (p := t.length < 4 ∨ x1.toNat < LO ∨ HI < x1.toNat ∨ x2.toNat < 128 ∨ 191 < x2.toNat ∨ x3.toNat < 128 ∨ 191 < x3.toNat) (by omega)).symm, below_drewN' (zT.alloc zR _) _⟩
                  · have q4z : ¬ ((191 : Int) < (x2.toNat : Int)) := by omega
                    by_cases q5 : x3.toNat < 128
                    · have q5z : (x3.toNat : Int) < 128 := by omega
                      go_quiet (fail)
                      go_wp2
                      go_meet
                      exact ⟨congrArg Value.bool (decide_eq_true (p := t.length < 4 ∨ x1.toNat < LO ∨ HI < x1.toNat ∨ x2.toNat < 128 ∨ 191 < x2.toNat ∨ x3.toNat < 128 ∨ 191 < x3.toNat) (by omega)).symm, below_drewN' (zT.alloc zR _) _⟩
                    · have q5z : ¬ ((x3.toNat : Int) < 128) := by omega
                      by_cases q6 : 191 < x3.toNat
                      · have q6z : (191 : Int) < (x3.toNat : Int) := by omega
                        go_quiet (fail)
                        go_wp2
                        go_meet
                        exact ⟨congrArg Value.bool (decide_eq_true (p := t.length < 4 ∨ x1.toNat < LO ∨ HI < x1.toNat ∨ x2.toNat < 128 ∨ 191 < x2.toNat ∨ x3.toNat < 128 ∨ 191 < x3.toNat) (by omega)).symm, below_drewN' (zT.alloc zR _) _⟩
                      · have q6z : ¬ ((191 : Int) < (x3.toNat : Int)) := by omega
                        go_quiet (fail)
                        go_wp2
                        go_meet
                        exact ⟨congrArg Value.bool (decide_eq_false (p := t.length < 4 ∨ x1.toNat < LO ∨ HI < x1.toNat ∨ x2.toNat < 128 ∨ 191 < x2.toNat ∨ x3.toNat < 128 ∨ 191 < x3.toNat) (by omega)).symm, below_drewN' (zT.alloc zR _) _⟩
         case rest =>
          obtain ⟨rfl, hbc⟩ := hcut
          by_cases hb : t.length < 4 ∨ x1.toNat < LO ∨ HI < x1.toNat ∨ x2.toNat < 128 ∨ 191 < x2.toNat ∨ x3.toNat < 128 ∨ 191 < x3.toNat
          · have hbd : decide (t.length < 4 ∨ x1.toNat < LO ∨ HI < x1.toNat ∨ x2.toNat < 128 ∨ 191 < x2.toNat ∨ x3.toNat < 128 ∨ 191 < x3.toNat) = true := decide_eq_true hb
            have hans : ANS = false := by have h := HLEAD.out; rwa [if_pos hb] at h
            have HANS := Hi hans
            clear hans HLEAD
            go_wp2
            all_goals (go_ret; exact ⟨by rw [HANS.out]; rfl, hbw.trans (hbc.mono hbw.size)⟩)
          · have hbd : decide (t.length < 4 ∨ x1.toNat < LO ∨ HI < x1.toNat ∨ x2.toNat < 128 ∨ 191 < x2.toNat ∨ x3.toNat < 128 ∨ 191 < x3.toNat) = false := decide_eq_false hb
            have hans : ANS = Lib.validD (t.drop 4) := by have h := HLEAD.out; rwa [if_neg hb] at h
            have HANS := Hi hans
            obtain ⟨A2, s2, r2⟩ := run_rest hrt 4 4 rfl (by omega)
            obtain ⟨t2, ht2⟩ : ∃ t2, t.drop 4 = t2 := ⟨_, rfl⟩
            have HT2 := Hi ht2
            rw [ht2] at s2 r2
            have z2 : t2.length + 4 = t.length := by rw [← ht2, List.length_drop]; omega
            clear hans HLEAD ht2
            go_wp2
            go_roundg g'
            case measure => omega
            case rel => exact ⟨hbw.trans (hbc.mono hbw.size), t2, A2, rfl, r2.below (hbc.mono (by have := hbw.size; omega)), by rw [HANS.out, HT2.out], by omega, by omega⟩
      have s2z : ¬ ((X : Int) % 8 = 2) := by omega
      have s3z : ¬ ((X : Int) % 8 = 3) := by omega
      have s4z : ¬ ((X : Int) % 8 = 4) := by omega
      have hans : ANS = false := by have h := HLEAD.out; simpa [Lib.checkN, s2, s3, s4] using h
      have HANS := Hi hans
      clear hans HLEAD hSZ
      go_wp2
      all_goals (go_ret; exact ⟨by rw [HANS.out]; rfl, below_drewN' (hbw.alloc hbw.size _) 0⟩)
  · have h0z : ¬ ((0 : Int) < (t.length : Int)) := by omega
    have ht : t = [] := List.eq_nil_of_length_eq_zero (by omega)
    have hans : ANS = true := by rw [← hv, ht]; rfl
    have HANS := Hi hans
    clear hans ht hv hTr hT
    go_wp2
    all_goals (go_ret; exact ⟨by rw [HANS.out]; rfl, hbw⟩)

def vText (x : List UInt8) (v : Value) (_ : World) : Prop := v = .string ⟨x.toArray⟩

theorem gBuf_inl {most : Int} {l x : List UInt8} {p q : Nat} (h : gBuf most l p = .inl (x, q)) : p + 4 + x.length = q ∧ q ≤ l.length := by
 unfold gBuf at h
 split at h
 · rename_i n q' hs
   obtain ⟨_, rfl, _, _, _⟩ := gSize_inl hs
   split at h
   · simp only [Sum.inl.injEq, Prod.mk.injEq] at h
     obtain ⟨rfl, rfl⟩ := h
     rw [List.length_take, List.length_drop]
     omega
   · cases h
 · cases h

theorem rText_any (B : Nat → Prop) (R c p : Nat) (A : Option Addr) (l : List UInt8) (most : Int) (w : World) (h : Rdr w B R A c l p) :
 Calls Tryd.prog 89 #[.pointer (some ⟨R, 0, none⟩), .int .i64 most] w fun e w' => Rend B R c A l vText (gText most l p) w e w' := by
 have HI := rBytes_any B R c p A l most w h
 have H := Hi h
 have hlen := h.len
 rcases hres : gBuf most l p with ⟨x, q⟩ | ⟨er, q⟩
 · rw [hres] at HI
   obtain ⟨hq1, hq2⟩ := gBuf_inl hres
   have HI := Hi HI
   rcases Bool.eq_false_or_eq_true (Lib.validD x) with hv | hv
   · have hg : gText most l p = .inl (x, q) := by unfold gText; rw [hres]; exact if_pos hv
     have HG := Hi hg
     have HV := Hi hv
     have HQ := Hi hq1
     have hx : x.length ≤ 140737488355328 := by omega
     clear h hg hres hv hq1
     go_enter Tryd.func89, Tryd.ntmps89
     go_wp2_with (first
      | (go_at_call 55; refine (done_any B R c p A l w H.out).mono ?_; rintro e w1 ⟨rfl, rfl⟩)
      | (go_at_call 101; refine (HI.out).mono ?_; rintro e w2 ⟨⟨v, rfl, A', c', rfl, hr, hn⟩, hkp, hR⟩; have HRD := Hi hr; have HNC := Hi hn.2; have HKP := Hi hkp; have HR := Hi hR; clear hr hn hkp hR)
      | (go_at_call 102; refine (valid_any A' _ c' w2.heap.size x w2 HRD.out HNC.out hx zR HR.out.tab).mono ?_; rintro e w3 ⟨rfl, hb⟩; rw [HV.out]; have HB3 := Hi hb
         have hcv := run_string_of_bytes (P := Tryd.prog) (w := w3) (src := 22) (e := 5) zU22 zU5 (HRD.out.below hb) (c := c') 9 zU9
         clear hb))
     go_ret
     exact Rend.yes HG.out rfl (HKP.out.to (Kp.of_below (X := []) HB3.out) (fun _ h _ => h) (fun _ h => by cases h)) (HR.out.later HB3.out)
   · have hg : gText most l p = .inr (22, p) := by unfold gText; rw [hres]; exact if_neg (by simp [hv])
     have HG := Hi hg
     have HV := Hi hv
     have HQ := Hi hq1
     have hx : x.length ≤ 140737488355328 := by omega
     have hq3 : 4 + (x.length : Int) ≤ q := by omega
     clear h hg hres hv hq1
     go_enter Tryd.func89, Tryd.ntmps89
     go_wp2_with (first
      | (go_at_call 55; refine (done_any B R c p A l w H.out).mono ?_; rintro e w1 ⟨rfl, rfl⟩)
      | (go_at_call 101; refine (HI.out).mono ?_; rintro e w2 ⟨⟨v, rfl, A', c', rfl, hr, hn⟩, hkp, hR⟩; have HRD := Hi hr; have HNC := Hi hn.2; have HKP := Hi hkp; have HR := Hi hR; clear hr hn hkp hR)
      | (go_at_call 102; refine (valid_any A' _ c' w2.heap.size x w2 HRD.out HNC.out hx zR HR.out.tab).mono ?_; rintro e w3 ⟨rfl, hb⟩; rw [HV.out]; have HB3 := Hi hb; clear hb)
      | (go_at_call 103; refine (back_any B R c _ A l _ 22 (by omega) hq3 rfl _ (HR.out.later HB3.out)).mono ?_; rintro e w4 ⟨rfl, hk3, hR3⟩; have HK3 := Hi hk3; have HR3 := Hi hR3; clear hk3 hR3))
     have e : q - (4 + (x.length : Int)).toNat = p := by have := HQ.out; omega
     exact ⟨rfl, Rend.no HG.out ((HKP.out.to (Kp.of_below (X := []) HB3.out) (fun _ h _ => h) (fun _ h => by cases h)).trans HK3.out) (e ▸ HR3.out)⟩
 · rw [hres] at HI
   have HI := Hi HI
   have hg : gText most l p = .inr (er, q) := by unfold gText; rw [hres]
   have HG := Hi hg
   clear h hg hres
   go_enter Tryd.func89, Tryd.ntmps89
   go_wp2_with (first
    | (go_at_call 55; refine (done_any B R c p A l w H.out).mono ?_; rintro e w1 ⟨rfl, rfl⟩)
    | (go_at_call 101; refine (HI.out).mono ?_; rintro e w2 ⟨rfl, hkp, hR⟩; have HKP := Hi hkp; have HR := Hi hR; clear hkp hR))
   exact ⟨rfl, Rend.no HG.out HKP.out HR.out⟩

theorem str_info : (Tryd.prog.info? 9).map (fun i => (i.zero, i.size, i.bytes)) = some (some (.string .empty), 1, 16) := by kernel_rfl
def bs (x : List UInt8) : ByteArray := ⟨x.toArray⟩
def vTexts (base : Nat) (L : List (List UInt8)) (v : Value) (w : World) : Prop := ∃ A' c', v = .slice A' L.length c' ∧ w.ownsRow base 9 1 v L.length (scells (L.map bs))

theorem getfn_ne (F : FuncId) (first cap : Array Value) (w : World) : (binOp .neq 127 (.func (.func F) first cap) .nilFunc).run Tryd.prog w = .ok (.bool true) w := by kernel_rfl

theorem gMany_succ {α : Type} (g : Rg α) (n : Nat) (l : List UInt8) (p : Nat) : gMany g (n + 1) l p = match g l p with
 | .inl (x, q) => (match gMany g n l q with
   | .inl (r, q') => .inl (x :: r, q')
   | .inr e => .inr e)
 | .inr e => .inr e := by
 rw [gMany]
 unfold Rg.bind Rg.map
 rcases g l p with ⟨x, q⟩ | e
 · dsimp only
   rcases gMany g n l q with ⟨r, q'⟩ | e <;> rfl
 · rfl

def after {α : Type} (ds : List α) (r : (List α × Nat) ⊕ (Int × Nat)) : (List α × Nat) ⊕ (Int × Nat) :=
 match r with
 | .inl (x, q) => .inl (ds ++ x, q)
 | .inr e => .inr e
theorem after_step {α : Type} (g : Rg α) (ds : List α) (n : Nat) (l : List UInt8) (p q : Nat) (x : α) (h : g l p = .inl (x, q)) : after ds (gMany g (n + 1) l p) = after (ds ++ [x]) (gMany g n l q) := by
 rw [gMany_succ, h]
 show after ds (match gMany g n l q with | .inl (r, q') => .inl (x :: r, q') | .inr e => .inr e) = _
 rcases gMany g n l q with ⟨r, q'⟩ | e
 · simp [after]
 · rfl
theorem strs_make0 (w : World) : (Instr.makeSlice 24 (.int .i64 0) (.int .i64 0)).run Tryd.prog w = .ok (.slice (some ⟨w.heap.size, 0, none⟩) 0 0) (w.alloc (.cells #[] 9)) := by kernel_rfl

theorem gCount_bd {most least : Int} {l : List UInt8} {p q n : Nat} (h : gCount most least l p = .inl (n, q)) : n ≤ 2147483647 := by
 unfold gCount at h
 split at h
 · rename_i n' q' hs
   obtain ⟨_, _, _, hb, _⟩ := gSize_inl hs
   split at h
   · cases h
   · simp only [Sum.inl.injEq, Prod.mk.injEq] at h
     omega
 · cases h

theorem rGet_any (B : Nat → Prop) (R c p : Nat) (A : Option Addr) (l : List UInt8) (most least : Int) (F : FuncId) (first cap : Array Value) (g : Rg (List UInt8)) (w : World) (h : Rdr w B R A c l p) (hent : ∀ (args : Array Value) (W : World), (callFunc F args).run Tryd.prog W = .ok (.enter F args) W)
 (hg : ∀ W q, Kp [R] w W → Rdr W B R A c l q → Calls Tryd.prog F (first.push (.pointer (some ⟨R, 0, none⟩)) ++ cap) W fun e w' => Rend B R c A l vText (g l q) W e w') :
 Calls Tryd.prog 87 #[.pointer (some ⟨R, 0, none⟩), .int .i64 most, .int .i64 least, .func (.func F) first cap] w fun e w' => Rend B R c A l (vTexts w.heap.size) (gGet most least g l p) w e w' := by
 obtain ⟨i0, hi0, hz0, hz1, hz2⟩ := info_parts str_info
 have hC := rCount_any B R c p A l most least (w.alloc (.cells #[] 9)) (h.later (zT.alloc zR _))
 have H := Hi h
 have HG := Hi hg
 have hne := getfn_ne F first cap
 have hmk := strs_make0
 have hRl := h.lt
 have hnew : ∀ y, w.heap.size ≤ y → ¬ B y := fun y hy => h.new (by omega)
 have HNEW := Hi hnew
 clear hnew
 clear hg h
 rcases hres : gCount most least l p with ⟨n, q0⟩ | ⟨er, q0⟩
 · rw [hres] at hC
   have HC := Hi hC
   have hnb : n ≤ 2147483647 := gCount_bd hres
   have HN : Hid (∀ e, gMany g n l q0 = e → gGet most least g l p = e) := by
    intro e he
    unfold gGet Rg.bind
    rw [hres]
    exact he
   clear hC hres
   go_enter Tryd.func87, Tryd.ntmps87
   go_wp2_with (go_at_call 100; refine (HC.out).mono ?_; rintro e w2 ⟨⟨v, rfl, rfl⟩, hkp, hR⟩; have HKP := Hi hkp; have HR := Hi hR; clear hkp hR)
   go_loopw [9, 16] (fun v i wr => ∃ (k q : Nat) (ds : List (List UInt8)), k ≤ n ∧ i = .int .i64 k ∧ ds.length = k ∧ wr.ownsRow w.heap.size 9 1 v k (scells (ds.map bs)) ∧ Hid (after ds (gMany g (n - k) l q) = gMany g n l q0) ∧ Kp [R] w wr ∧ Rdr wr B R A c l q) (fun _ i _ => n - (intOf i).toNat)
   case atStart =>
    exact ⟨0, q0, [], Nat.zero_le _, rfl, rfl, own_kp (World.ownsRow_made w #[] 0 zR (by decide) rfl) HKP.out (fun x hx e => by simp [Value.ownBlock] at hx e; omega), by show _ = _; rcases gMany g n l q0 with ⟨r, q'⟩ | e <;> rfl, (Kp.alloc _).trans HKP.out, HR.out⟩
   case round =>
    clear HKP HR
    obtain ⟨k, q, ds, hk, rfl, hds, hown, HA, hkp, hR⟩ := hrel
    have HKP := Hi hkp
    have HR := Hi hR
    have HD := Hi hds
    have hsz := hkp.size
    have hget := HG.out wr q hkp hR
    have HOWN := Hi hown
    clear hkp hR hown hds
    by_cases hlt : k < n
    · obtain ⟨m, hm⟩ : ∃ m, n - k = m + 1 := ⟨n - k - 1, by omega⟩
      rw [hm] at HA
      rcases hgr : g l q with ⟨x, q1⟩ | ⟨er, q1⟩
      · rw [hgr] at hget
        have HGET := Hi hget
        have HA2 : Hid (after (ds ++ [x]) (gMany g m l q1) = gMany g n l q0) := by
         show _ = _
         rw [← HA.out, after_step g ds m l q q1 x hgr]
        clear hget hgr HA
        go_wp2_with (first
         | (with_reducible refine (HGET.out).mono ?_
            rintro e w3 ⟨⟨v3, rfl, rfl⟩, hk3, hR3⟩
            have hsz3 := hk3.size
            have HK3 := Hi (HKP.out.trans hk3)
            have hown3 := own_kp HOWN.out hk3 (fun y hy e => by have := (HOWN.out.lt y e).1; simp at hy; omega)
            have HOWN3 := Hi hown3
            have HR3 := Hi hR3
            clear hk3 hR3 hown3)
         | (at_builtin
            refine wpList_append_any _ rfl (.tmp 23) (.tmp 25) _ rfl w.heap.size 9 i0 _ 1 16 zU24 hi0 hz0 hz1 hz2 rfl (by decide) u9 k (scells (ds.map bs)) rfl (HOWN3.out.alloc _) (w3.heap.size + 1) (some ⟨w3.heap.size, 0, none⟩) 1 1 [.string ⟨x.toArray⟩] rfl (reads_lit w3 9 [_]) (by simp [Value.oneCell']) (by simp only [maxLen]; omega) (by omega) (by simp; omega) ?_
            intro v1 w4 hown4 hg4 hat4
            have HK4 := Hi (HK3.out.to ((Kp.alloc (X := []) _).to (Kp.of_grown hg4) (fun _ h => by cases h) (fun y hy hl => hy)) (fun y hy _ => hy) (fun y hy hl => by have := (HOWN3.out.lt y (by simpa using hy)).1; omega))
            have HR4 := Hi ((HR3.out.later (zT.alloc zR _)).kp (Kp.of_grown hg4) (fun hx => by have := (HOWN3.out.lt R (by simpa using hx)).1; omega) (fun y hy => HNEW.out y (HOWN3.out.lt y (by simpa using hy)).1))
            have HOWN4 := Hi hown4
            clear hat4 hg4 hown4))
        go_roundw
        case rel =>
         refine ⟨k + 1, q1, ds ++ [x], by omega, by go_num, by rw [zG, HD.out]; rfl, ?_, ?_, HK4.out, HR4.out⟩
         · rw [List.map_append, scells_append]; exact HOWN4.out
         · rw [show n - (k + 1) = m by omega]; exact HA2.out
        case measure => simp [intOf]; omega
      · rw [hgr] at hget
        have HGET := Hi hget
        have hga : gGet most least g l p = .inr (er, q1) := by
         refine HN.out _ ?_
         rw [← HA.out, gMany_succ, hgr]
         rfl
        have HGA := Hi hga
        clear hget hgr hga HA
        go_wp2_with (with_reducible refine (HGET.out).mono ?_
                     rintro e w3 ⟨rfl, hk3, hR3⟩
                     have HK3 := Hi (HKP.out.trans hk3)
                     have HR3 := Hi hR3
                     clear hk3 hR3)
        exact ⟨rfl, Rend.no HGA.out HK3.out HR3.out⟩
    · have hkn : k = n := by omega
      have hga : gGet most least g l p = .inl (ds, q) := by
       refine HN.out _ ?_
       rw [← HA.out, show n - k = 0 by omega]
       show (Sum.inl (ds ++ [], q) : (List (List UInt8) × Nat) ⊕ (Int × Nat)) = _
       rw [List.append_nil]
      have HGA := Hi hga
      obtain ⟨A', c', rfl⟩ := slice_form HOWN.out
      clear hkn hga hget
      go_wp2
      go_ret
      exact Rend.yes HGA.out ⟨A', c', by rw [HD.out]; rfl, by rw [HD.out]; exact HOWN.out⟩ HKP.out HR.out
 · rw [hres] at hC
   have HC := Hi hC
   have hga : gGet most least g l p = .inr (er, q0) := by
    unfold gGet Rg.bind
    rw [hres]
   have HGA := Hi hga
   clear hC hres hga
   go_enter Tryd.func87, Tryd.ntmps87
   go_wp2_with (go_at_call 100; refine (HC.out).mono ?_; rintro e w2 ⟨rfl, hkp, hR⟩; have HKP := Hi hkp; have HR := Hi hR; clear hkp hR)
   exact ⟨rfl, Rend.no HGA.out ((Kp.alloc _).trans HKP.out) HR.out⟩

theorem catch_idle (R v0 v1 v2 : Nat) (A : Option Addr) (n c : Nat) (p : Int) (w : World) (hb : Blk w R 116 #[.slice A n c, .int .i64 p, .bool false]) (hv : w.cell? ⟨v0, 0, none⟩ = some (.pointer (some ⟨R, 0, none⟩))) (hne : v0 ≠ R) :
 CallsD Tryd.prog 81 #[.pointer (some ⟨v0, 0, none⟩), .pointer (some ⟨v1, 0, none⟩), .pointer (some ⟨v2, 0, none⟩)] .returning w fun e u' w' =>
  e = .returned (.tuple #[]) ∧ u' = .returning ∧ w' = (w.setCell ⟨R, 2, none⟩ (.bool true)).setCell ⟨R, 0, none⟩ (.slice none 0 0) := by
 have c0 : w.cell? ⟨R, 0, none⟩ = some (.slice A n c) := by rw [hb.cell 0]; rfl
 have c2 : w.cell? ⟨R, 2, none⟩ = some (.bool false) := by rw [hb.cell 2]; rfl
 have f0 := hb.frozen 0
 have f2 := hb.frozen 2
 have hv1 : (w.setCell ⟨R, 2, none⟩ (.bool true)).cell? ⟨v0, 0, none⟩ = some (.pointer (some ⟨R, 0, none⟩)) := by
  rw [World.cell?_setCell_other _ _ _ _ (by simp [hne])]; exact hv
 clear hb
 refine callsD_of_wpS Tryd.func81 rfl fun c₀ cs hu => ?_
 simp only [Tryd.ntmps81, zO, zM, zK, Nat.reduceAdd, Nat.reduceSub, Array.replicate_succ, Array.replicate_zero, List.push_toArray, List.append_toArray, List.nil_append, List.cons_append]
 apply wpS_seq
 apply wpS_of_wp
 go_wp2
 simp only [Exit.thenS]
 apply wpS_seq
 apply wpS_of_wp
 go_wp2
 simp only [Exit.thenS]
 apply wpS_seq
 apply wpS_region
 simp [wpOpsS, go_sem, recoverD, hu, Exit.thenS]
 generalize hw2 : (w.setCell ⟨R, 2, none⟩ (.bool true)).setCell ⟨R, 0, none⟩ (.slice none 0 0) = w2
 clear hw2 c0 c2 f0 f2 hv hv1 hne
 apply wpS_of_wp
 go_wp2
 cases c₀
 simp only at hu
 subst hu
 exact ⟨rfl, .returning, rfl, _, results_none rfl _ _ _, rfl, rfl, rfl⟩

theorem rdr_info : (Tryd.prog.info? 116).map (fun i => (i.zero, i.size, i.bytes)) = some (some (.agg #[.slice none 0 0, .int .i64 0, .bool false]), 3, 40) := by kernel_rfl
theorem run_neq_rptr (w : World) (R : Nat) : (binOp .neq 61 (.pointer (some ⟨R, 0, none⟩)) (.pointer (some ⟨R, 0, none⟩))).run Tryd.prog w = .ok (.bool false) w := by
 obtain ⟨j, hj, _⟩ := info_parts rdr_info
 exact Lib.run_neq_ptr_same w ⟨R, 0, none⟩ zU61 hj

theorem catch_fail (R v0 v1 v2 : Nat) (A : Option Addr) (n c : Nat) (p er z0 z1 : Int) (w : World) (hb : Blk w R 116 #[.slice A n c, .int .i64 p, .bool false]) (hv : w.cell? ⟨v0, 0, none⟩ = some (.pointer (some ⟨R, 0, none⟩))) (hne : v0 ≠ R)
 (hb1 : Blk w v1 3 #[.int .i64 z0]) (hb2 : Blk w v2 34 #[.int .i64 z1]) (d1 : v1 ≠ R) (d2 : v2 ≠ R) (d3 : v1 ≠ v0) (d4 : v2 ≠ v0) (d5 : v1 ≠ v2) (hv0 : v0 < w.heap.size) :
 CallsD Tryd.prog 81 #[.pointer (some ⟨v0, 0, none⟩), .pointer (some ⟨v1, 0, none⟩), .pointer (some ⟨v2, 0, none⟩)] (.panicking [{ v := .iface 118 (.agg #[.pointer (some ⟨R, 0, none⟩), .int .i64 er]), recovered := false }]) w fun e u' w' =>
  e = .returned (.tuple #[]) ∧ u' = .panicking [{ v := .iface 118 (.agg #[.pointer (some ⟨R, 0, none⟩), .int .i64 er]), recovered := true }] ∧ Kp [R, v1, v2] w w' ∧ Blk w' R 116 #[.slice none 0 0, .int .i64 p, .bool true] ∧ w'.cell? ⟨v1, 0, none⟩ = some (.int .i64 p) ∧ w'.cell? ⟨v2, 0, none⟩ = some (.int .i64 er) := by
 have c0 : w.cell? ⟨R, 0, none⟩ = some (.slice A n c) := by rw [hb.cell 0]; rfl
 have c2 : w.cell? ⟨R, 2, none⟩ = some (.bool false) := by rw [hb.cell 2]; rfl
 have f0 := hb.frozen 0
 have f2 := hb.frozen 2
 have hv1 : (w.setCell ⟨R, 2, none⟩ (.bool true)).cell? ⟨v0, 0, none⟩ = some (.pointer (some ⟨R, 0, none⟩)) := by
  rw [World.cell?_setCell_other _ _ _ _ (by simp [hne])]; exact hv
 have B2 : Blk ((w.setCell ⟨R, 2, none⟩ (.bool true)).setCell ⟨R, 0, none⟩ (.slice none 0 0)) R 116 #[.slice none 0 0, .int .i64 p, .bool true] := (hb.set_ 2 _).set_ 0 _
 have K2 : Kp [R] w ((w.setCell ⟨R, 2, none⟩ (.bool true)).setCell ⟨R, 0, none⟩ (.slice none 0 0)) := (Kp.setCell ⟨R, 2, none⟩ _).to (Kp.setCell ⟨R, 0, none⟩ _) (fun _ h _ => h) (fun _ h _ => h)
 have htA : ∀ W : World, (Instr.typeAssert (.iface 118 (.agg #[.pointer (some ⟨R, 0, none⟩), .int .i64 er])) 20 118 true).run Tryd.prog W = .ok (.tuple #[.agg #[.pointer (some ⟨R, 0, none⟩), .int .i64 er], .bool true]) W := fun _ => by kernel_rfl
 have hpn : ∀ W : World, (binOp .neq 61 (.pointer (some ⟨R, 0, none⟩)) (.pointer (some ⟨R, 0, none⟩))).run Tryd.prog W = .ok (.bool false) W := fun W => run_neq_rptr W R
 clear hb
 refine callsD_of_wpS Tryd.func81 rfl fun c₀ cs hu => ?_
 simp only [Tryd.ntmps81, zO, zM, zK, Nat.reduceAdd, Nat.reduceSub, Array.replicate_succ, Array.replicate_zero, List.push_toArray, List.append_toArray, List.nil_append, List.cons_append]
 apply wpS_seq
 apply wpS_of_wp
 go_wp2
 simp only [Exit.thenS]
 apply wpS_seq
 apply wpS_of_wp
 go_wp2
 simp only [Exit.thenS]
 apply wpS_seq
 apply wpS_region
 simp [wpOpsS, go_sem, recoverD, hu, Exit.thenS]
 generalize hw2 : (w.setCell ⟨R, 2, none⟩ (.bool true)).setCell ⟨R, 0, none⟩ (.slice none 0 0) = w2 at B2 K2 ⊢
 have b1 : Blk w2 v1 3 #[.int .i64 z0] := hb1.kp K2 (by simp [d1])
 have b2 : Blk w2 v2 34 #[.int .i64 z1] := hb2.kp K2 (by simp [d2])
 have hv2 : w2.cell? ⟨v0, 0, none⟩ = some (.pointer (some ⟨R, 0, none⟩)) := by rw [K2.cell (by simpa using hv0) (by simp [hne])]; exact hv
 have hz := K2.size
 have l0 : v0 < w2.heap.size := by omega
 have l1 := b1.lt
 have l2 := b2.lt
 have lR := B2.lt
 obtain ⟨w3, hw3⟩ := xa w2 #[.pointer (some ⟨R, 0, none⟩), .int .i64 er] 118
 have K3 : Kp [] w2 w3 := hw3 ▸ Kp.alloc _
 have b13 := b1.kp K3 (by simp)
 have b23 := b2.kp K3 (by simp)
 have bR3 := B2.kp K3 (by simp)
 have bN3 : Blk w3 w2.heap.size 118 #[.pointer (some ⟨R, 0, none⟩), .int .i64 er] := hw3 ▸ Blk.new _ _ _
 have cv3 : w3.cell? ⟨v0, 0, none⟩ = some (.pointer (some ⟨R, 0, none⟩)) := by rw [K3.cell (by simpa using l0) (by simp)]; exact hv2
 have cR3 : w3.cell? ⟨R, 1, none⟩ = some (.int .i64 p) := by rw [bR3.cell 1]; rfl
 have cN0 : w3.cell? ⟨w2.heap.size, 0, none⟩ = some (.pointer (some ⟨R, 0, none⟩)) := by rw [bN3.cell 0]; rfl
 have cN1 : w3.cell? ⟨w2.heap.size, 1, none⟩ = some (.int .i64 er) := by rw [bN3.cell 1]; rfl
 have c13 : w3.cell? ⟨v1, 0, none⟩ = some (.int .i64 z0) := by rw [b13.cell 0]; rfl
 have c23 : w3.cell? ⟨v2, 0, none⟩ = some (.int .i64 z1) := by rw [b23.cell 0]; rfl
 have f13 := b13.frozen 0
 have f23 := b23.frozen 0
 have n1 : ¬ v1 = w2.heap.size := by omega
 have n2 : ¬ v2 = w2.heap.size := by omega
 have K1 : Kp [R] w w3 := K2.to K3 (fun _ h _ => h) (fun _ h => by cases h)
 have HK := Hi K1
 have HB13 := Hi b13
 have HB23 := Hi b23
 have HBR := Hi bR3
 have hmem : ∀ x, x ∈ [R, v1, v2] ↔ x = R ∨ x = v1 ∨ x = v2 := by intro x; simp
 have HM := Hi hmem
 clear K1 K2 K3 B2 b1 b2 b13 b23 bR3 bN3 hb1 hb2 hv hv1 hv2 c0 c2 f0 f2 hw2 hmem
 apply wpS_of_wp
 go_wp2
 go_region
 all_goals (
  refine ⟨rfl, _, rfl, _, results_none rfl _ _ _, rfl, rfl, ?_⟩
  have K1 := HK.out.to (Kp.setCell ⟨v1, 0, none⟩ (.int .i64 p)) (Z := [R, v1, v2]) (fun x hx _ => by simp at hx; simp [hx]) (fun x hx _ => by simp at hx; simp [hx])
  have K2 := K1.to (Kp.setCell ⟨v2, 0, none⟩ (.int .i64 er)) (Z := [R, v1, v2]) (fun x hx _ => hx) (fun x hx _ => by simp at hx; simp [hx])
  refine ⟨K2.trans Kp.drew, ((HBR.out.far (p := ⟨v1, 0, none⟩) (by simpa using d1.symm) _).far (p := ⟨v2, 0, none⟩) (by simpa using d2.symm) _).drew, ?_, ?_⟩
  · show World.cell? _ _ = _
    rw [World.cell?_drew, World.cell?_setCell_other _ _ _ _ (by simp [d5.symm]), World.cell?_setCell_same _ _ _ c13]
  · rw [World.cell?_drew, World.cell?_setCell_same _ _ _ (show World.cell? _ _ = some (.int .i64 z1) by rw [World.cell?_setCell_other _ _ _ _ (by simp [d5])]; exact c23)])

theorem do_ne (F : FuncId) (first cap : Array Value) (w : World) : (binOp .eql 64 (.func (.func F) first cap) .nilFunc).run Tryd.prog w = .ok (.bool false) w := by kernel_rfl

def rAt : Nat ⊕ (Int × Nat) → Nat
 | .inl q => q
 | .inr (_, q) => q
def rE : Nat ⊕ (Int × Nat) → Int
 | .inl _ => 0
 | .inr (e, _) => e

def Did (B : Nat → Prop) (R c : Nat) (A : Option Addr) (l : List UInt8) (X : List Nat) (P : World → Prop) (r : Nat ⊕ (Int × Nat)) (W : World) (e : Ending) (W' : World) : Prop :=
 match r with
 | .inl q => (∃ v, e = .returned v) ∧ P W' ∧ Kp (R :: X) W W' ∧ Rdr W' B R A c l q
 | .inr (er, q) => e = .panicked (fails R er) ∧ P W' ∧ Kp (R :: X) W W' ∧ Rdr W' B R A c l q

theorem read_any (B : Nat → Prop) (c n : Nat) (A : Option Addr) (l : List UInt8) (F : FuncId) (first cap : Array Value) (X : List Nat) (P : World → Prop) (r : Nat ⊕ (Int × Nat)) (w : World)
 (hr : Reads w w.heap.size 1 A n (bcells l)) (hnc : n ≤ c) (hn : n ≤ 140737488355328) (hnil : A = none → c = 0) (hB : ∀ x, B x → x < w.heap.size) (hT : Lib.Utf8Tabs 0 1 w) (hg : B 0 ∧ B 1) (hmine : 0 < n → ∀ ad, A = some ad → B ad.block)
 (hX : ∀ x ∈ X, x < w.heap.size) (hent : ∀ (args : Array Value) (W : World), (callFunc F args).run Tryd.prog W = .ok (.enter F args) W)
 (hdo : ∀ W, Kp [] w W → W.heap.size = w.heap.size + 4 → Rdr W B (w.heap.size + 1 + 1) A c l 0 → Calls Tryd.prog F (first.push (.pointer (some ⟨w.heap.size + 1 + 1, 0, none⟩)) ++ cap) W fun e W' => Did B (w.heap.size + 1 + 1) c A l X P r W e W') :
 Calls Tryd.prog 54 #[.slice A n c, .func (.func F) first cap] w fun e w' => e = .returned (.tuple #[.int .i64 (rAt r), .int .i64 (rE r)]) ∧ Kp X w w' ∧
  (∃ W', P W' ∧ Kp [w.heap.size, w.heap.size + 1, w.heap.size + 1 + 1] W' w' ∧ Rdr W' B (w.heap.size + 1 + 1) A c l (rAt r) ∧ w.heap.size + 4 ≤ W'.heap.size) ∧ Blk w' (w.heap.size + 1 + 1) 116 #[.slice none 0 0, .int .i64 (rAt r), .bool true] := by
 have hl : l.length = n := by have := hr.1; rw [bcells_length] at this; omega
 subst hl
 have hmf : ∀ (fn : Fn) (first cap : Array Value) (w : World), (Instr.makeFunc fn first cap).run Tryd.prog w = .ok (.func fn first cap) w := fun _ _ _ _ => rfl
 have hne := do_ne F first cap
 obtain ⟨w4, hw4⟩ : ∃ w4, (((w.alloc (.cells #[.int .i64 0] 3)).alloc (.cells #[.int .i64 0] 34)).alloc (.cells #[.slice A l.length c, .int .i64 0, .bool false] 116)).alloc (.cells #[.pointer (some ⟨w.heap.size + 1 + 1, 0, none⟩)] 61) = w4 := ⟨_, rfl⟩
 have hk4 : Kp [] w w4 := by
  rw [← hw4]
  exact (((Kp.alloc _).trans (Kp.alloc _)).trans (Kp.alloc _)).trans (Kp.alloc _)
 have hz4 : w4.heap.size = w.heap.size + 4 := by rw [← hw4]; simp
 have b0 : Blk w4 w.heap.size 3 #[.int .i64 0] := by rw [← hw4]; exact (((Blk.new' rfl).alloc _).alloc _).alloc _
 have b1 : Blk w4 (w.heap.size + 1) 34 #[.int .i64 0] := by rw [← hw4]; exact ((Blk.new' (by simp)).alloc _).alloc _
 have b2 : Blk w4 (w.heap.size + 1 + 1) 116 #[.slice A l.length c, .int .i64 0, .bool false] := by rw [← hw4]; exact (Blk.new' (by simp)).alloc _
 have b3 : Blk w4 (w.heap.size + 1 + 1 + 1) 61 #[.pointer (some ⟨w.heap.size + 1 + 1, 0, none⟩)] := by rw [← hw4]; exact Blk.new' (by simp)
 have rd4 : Rdr w4 B (w.heap.size + 1 + 1) A c l 0 := ⟨b2, reads_off hr hk4 (fun _ _ _ h => by cases h), hnc, Nat.zero_le _, (fun x hx => by have := hB x hx; omega), hn, hnil, hT.kp hk4 ⟨(fun h => by cases h), (fun h => by cases h)⟩ ⟨hB _ hg.1, hB _ hg.2⟩, hg, ⟨by have := hB _ hg.1; omega, by have := hB _ hg.2; omega⟩, hmine⟩
 have HDO := Hi (hdo w4 hk4 hz4 rd4)
 have c3 : w4.cell? ⟨w.heap.size + 1 + 1 + 1, 0, none⟩ = some (.pointer (some ⟨w.heap.size + 1 + 1, 0, none⟩)) := by rw [b3.cell 0]; rfl
 have HB0 := Hi b0
 have HB1 := Hi b1
 have HB3 := Hi b3
 have HK4 := Hi hk4
 have HZ4 := Hi hz4
 have HX := Hi (show ∀ x, x ∈ (w.heap.size + 1 + 1) :: X → x < w.heap.size ∨ x = w.heap.size + 1 + 1 from fun x hx => by
  rcases zH.1 hx with h | h
  · exact .inr h
  · exact .inl (hX x h))
 clear b0 b1 b2 b3 hk4 hz4 rd4 hdo hX hT hr hnc hn hnil hg hB hmine
 rcases r with q | ⟨er, q⟩
 · go_enter_defers Tryd.func54, Tryd.ntmps54
   go_wp2_with (with_reducible refine (HDO.out).mono ?_
                rintro e W' ⟨⟨v, rfl⟩, hp, hk, hR⟩
                have B0 : Blk W' w.heap.size 3 #[.int .i64 0] := HB0.out.kp hk (fun hx => by have := HX.out _ hx; omega)
                have B1 : Blk W' (w.heap.size + 1) 34 #[.int .i64 0] := HB1.out.kp hk (fun hx => by have := HX.out _ hx; omega)
                have B3 : Blk W' (w.heap.size + 1 + 1 + 1) 61 #[.pointer (some ⟨w.heap.size + 1 + 1, 0, none⟩)] := HB3.out.kp hk (fun hx => by have := HX.out _ hx; omega)
                have c3' : W'.cell? ⟨w.heap.size + 1 + 1 + 1, 0, none⟩ = some (.pointer (some ⟨w.heap.size + 1 + 1, 0, none⟩)) := (by rw [B3.cell 0]; rfl)
                have c0' : W'.cell? ⟨w.heap.size, 0, none⟩ = some (.int .i64 0) := (by rw [B0.cell 0]; rfl)
                have c1' : W'.cell? ⟨w.heap.size + 1, 0, none⟩ = some (.int .i64 0) := (by rw [B1.cell 0]; rfl)
                have f0' := B0.frozen 0
                have f1' := B1.frozen 0
                obtain ⟨_, cR1, _, _⟩ := hR.cells
                have HP := Hi hp
                have HKW := Hi hk
                have HR := Hi hR
                have HB0' := Hi B0
                have HB1' := Hi B1
                have HB3' := Hi B3
                clear hp hk hR B0 B1 B3)
   obtain ⟨w5, hw5⟩ : ∃ w5, (W'.setCell ⟨w.heap.size, 0, none⟩ (.int .i64 q)).setCell ⟨w.heap.size + 1, 0, none⟩ (.int .i64 0) = w5 := ⟨_, rfl⟩
   have K5 : Kp [w.heap.size, w.heap.size + 1] W' w5 := by
    rw [← hw5]
    exact (Kp.setCell ⟨w.heap.size, 0, none⟩ _).to (Kp.setCell ⟨w.heap.size + 1, 0, none⟩ _) (fun x hx _ => by simp at hx; simp [hx]) (fun x hx _ => by simp at hx; simp [hx])
   have D0 : Blk w5 w.heap.size 3 #[.int .i64 q] := by rw [← hw5]; exact (HB0'.out.set_ 0 _).far (by simp) _
   have D1 : Blk w5 (w.heap.size + 1) 34 #[.int .i64 0] := by rw [← hw5]; exact (HB1'.out.far (by simp) _).set_ 0 _
   have D3 := HB3'.out.kp K5 (by simp; omega)
   have R5 := HR.out.blk.kp K5 (by simp; omega)
   rw [hw5]
   refine leaves_cons (f := 81) (args := #[.pointer (some ⟨w.heap.size + 1 + 1 + 1, 0, none⟩), .pointer (some ⟨w.heap.size, 0, none⟩), .pointer (some ⟨w.heap.size + 1, 0, none⟩)]) (by simp) (by simp [go_sem]) ?_
   refine (catch_idle (w.heap.size + 1 + 1) (w.heap.size + 1 + 1 + 1) w.heap.size (w.heap.size + 1) A l.length c q w5 R5 (by rw [D3.cell 0]; rfl) (by omega)).mono ?_
   rintro e u' w'' ⟨rfl, rfl, hw6⟩
   have K6 : Kp [w.heap.size + 1 + 1] w5 w'' := by
    rw [hw6]
    exact (Kp.setCell ⟨w.heap.size + 1 + 1, 2, none⟩ _).to (Kp.setCell ⟨w.heap.size + 1 + 1, 0, none⟩ _) (fun x hx _ => hx) (fun x hx _ => hx)
   have R6 : Blk w'' (w.heap.size + 1 + 1) 116 #[.slice none 0 0, .int .i64 q, .bool true] := by rw [hw6]; exact (R5.set_ 2 _).set_ 0 _
   have e0 : w''.cell? ⟨w.heap.size, 0, none⟩ = some (.int .i64 q) := by rw [(D0.kp K6 (by simp; omega)).cell 0]; rfl
   have e1 : w''.cell? ⟨w.heap.size + 1, 0, none⟩ = some (.int .i64 0) := by rw [(D1.kp K6 (by simp)).cell 0]; rfl
   have KA : Kp [w.heap.size, w.heap.size + 1, w.heap.size + 1 + 1] W' w'' := K5.to K6 (fun x hx _ => by simp at hx; rcases hx with rfl | rfl <;> simp) (fun x hx _ => by simp at hx; simp [hx])
   have KX : Kp X w w'' := (HK4.out.to HKW.out (Z := X) (fun _ h => by cases h) (fun x hx hl => by
    rcases zH.1 hx with h | h
    · omega
    · exact h)).to KA (fun _ h _ => h) (fun x hx hl => by simp at hx; omega)
   clear hw6 hw5
   exact ⟨_, by simp [settle, results, Tryd.results54, go_sem, e0, e1, rAt, rE], rfl, KX, ⟨W', HP.out, KA, HR.out, by have := HKW.out.size; have := HZ4.out; omega⟩, R6⟩
 · go_enter_defers Tryd.func54, Tryd.ntmps54
   go_wp2_with (with_reducible refine (HDO.out).mono ?_
                rintro e W' ⟨rfl, hp, hk, hR⟩
                have HP := Hi hp
                have HKW := Hi hk
                have HR := Hi hR
                clear hp hk hR)
   have hk := HKW.out
   have B0 : Blk W' w.heap.size 3 #[.int .i64 0] := HB0.out.kp hk (fun hx => by have := HX.out _ hx; omega)
   have B1 : Blk W' (w.heap.size + 1) 34 #[.int .i64 0] := HB1.out.kp hk (fun hx => by have := HX.out _ hx; omega)
   have B3 : Blk W' (w.heap.size + 1 + 1 + 1) 61 #[.pointer (some ⟨w.heap.size + 1 + 1, 0, none⟩)] := HB3.out.kp hk (fun hx => by have := HX.out _ hx; omega)
   refine leaves_cons (f := 81) (args := #[.pointer (some ⟨w.heap.size + 1 + 1 + 1, 0, none⟩), .pointer (some ⟨w.heap.size, 0, none⟩), .pointer (some ⟨w.heap.size + 1, 0, none⟩)]) (by simp) (by simp [go_sem]) ?_
   refine (catch_fail (w.heap.size + 1 + 1) (w.heap.size + 1 + 1 + 1) w.heap.size (w.heap.size + 1) A l.length c q er 0 0 W' HR.out.blk (by rw [B3.cell 0]; rfl) (by omega) B0 B1 (by omega) (by omega) (by omega) (by omega) (by omega) B3.lt).mono ?_
   rintro e u' w'' ⟨rfl, rfl, KA', R6, e0, e1⟩
   have KA : Kp [w.heap.size, w.heap.size + 1, w.heap.size + 1 + 1] W' w'' := KA'.mono (fun x hx _ => by simp at hx ⊢; omega)
   have KX : Kp X w w'' := (HK4.out.to HKW.out (Z := X) (fun _ h => by cases h) (fun x hx hl => by
    rcases zH.1 hx with h | h
    · omega
    · exact h)).to KA (fun _ h _ => h) (fun x hx hl => by simp at hx; omega)
   clear KA'
   exact ⟨_, by simp [settle, results, Tryd.results54, go_sem, e0, e1, rAt, rE], rfl, KX, ⟨W', HP.out, KA, HR.out, by have := HKW.out.size; have := HZ4.out; omega⟩, R6⟩

def rAllE (l : List UInt8) (r : Nat ⊕ (Int × Nat)) : Int := if rE r = 0 ∧ rAt r < l.length then 21 else rE r

theorem all_any (B : Nat → Prop) (c n : Nat) (A : Option Addr) (l : List UInt8) (F : FuncId) (first cap : Array Value) (X : List Nat) (P : World → Prop) (r : Nat ⊕ (Int × Nat)) (w : World)
 (hr : Reads w w.heap.size 1 A n (bcells l)) (hnc : n ≤ c) (hn : n ≤ 140737488355328) (hnil : A = none → c = 0) (hB : ∀ x, B x → x < w.heap.size) (hT : Lib.Utf8Tabs 0 1 w) (hg : B 0 ∧ B 1) (hmine : 0 < n → ∀ ad, A = some ad → B ad.block)
 (hX : ∀ x ∈ X, x < w.heap.size) (hent : ∀ (args : Array Value) (W : World), (callFunc F args).run Tryd.prog W = .ok (.enter F args) W)
 (hdo : ∀ W, Kp [] w W → W.heap.size = w.heap.size + 4 → Rdr W B (w.heap.size + 1 + 1) A c l 0 → Calls Tryd.prog F (first.push (.pointer (some ⟨w.heap.size + 1 + 1, 0, none⟩)) ++ cap) W fun e W' => Did B (w.heap.size + 1 + 1) c A l X P r W e W') :
 Calls Tryd.prog 27 #[.slice A n c, .func (.func F) first cap] w fun e w' => e = .returned (.tuple #[.int .i64 (rAt r), .int .i64 (rAllE l r)]) ∧ Kp X w w' ∧
  (∃ W', P W' ∧ Kp [w.heap.size, w.heap.size + 1, w.heap.size + 1 + 1] W' w' ∧ Rdr W' B (w.heap.size + 1 + 1) A c l (rAt r) ∧ w.heap.size + 4 ≤ W'.heap.size) ∧ Blk w' (w.heap.size + 1 + 1) 116 #[.slice none 0 0, .int .i64 (rAt r), .bool true] := by
 have hl : l.length = n := by have := hr.1; rw [bcells_length] at this; omega
 subst hl
 have HR := Hi (read_any B c l.length A l F first cap X P r w hr hnc hn hnil hB hT hg hmine hX hent hdo)
 clear hr hnc hnil hB hT hg hmine hX hent hdo
 generalize hE : rE r = er at HR
 generalize hA : rAt r = q at HR
 have hAll : rAllE l r = if er = 0 ∧ q < l.length then 21 else er := by unfold rAllE; rw [hE, hA]
 rw [hAll]
 clear hAll hE hA
 by_cases h0 : er = 0
 · by_cases h1 : q < l.length
   · rw [if_pos ⟨h0, h1⟩]
     have h0b : (er == 0) = true := by simp [h0]
     clear h0
     go_enter Tryd.func27, Tryd.ntmps27
     go_wp2_with (go_at_call 54; refine (HR.out).mono ?_; rintro e w1 ⟨rfl, hq⟩; have HQ := Hi hq; clear hq)
     go_ret2
     exact ⟨rfl, HQ.out⟩
   · rw [if_neg (fun h => h1 h.2)]
     have h0b : (er == 0) = true := by simp [h0]
     clear h0
     go_enter Tryd.func27, Tryd.ntmps27
     go_wp2_with (go_at_call 54; refine (HR.out).mono ?_; rintro e w1 ⟨rfl, hq⟩; have HQ := Hi hq; clear hq)
     go_ret2
     exact ⟨rfl, HQ.out⟩
 · rw [if_neg (fun h => h0 h.1)]
   have h0b : (er == 0) = false := by simp [h0]
   clear h0
   go_enter Tryd.func27, Tryd.ntmps27
   go_wp2_with (go_at_call 54; refine (HR.out).mono ?_; rintro e w1 ⟨rfl, hq⟩; have HQ := Hi hq; clear hq)
   go_ret2
   exact ⟨rfl, HQ.out⟩
end Go.Proofs.YtpjjnmdfgcfnmaaDoor
