/- The chapter's first examples. -/
import Derived.Test.YtbegingiedbldaaDoorJq3
import Derived.Test.YtbegingiedbldaaDoorJq4
import Derived.Test.YtbegingiedbldaaDoorJw5
import Derived.Test.YtbegingiedbldaaDoorJenv
namespace Go.Proofs.YtbegingiedbldaaDoor
open Go.RowKit

theorem Did.imp {B : Nat → Prop} {R c : Nat} {A : Option Addr} {l : List UInt8} {X : List Nat} {P P' : World → Prop} {r : Nat ⊕ (Int × Nat)} {W : World} {e : Ending} {W' : World} (h : Did B R c A l X P r W e W') (hp : P W' → P' W') : Did B R c A l X P' r W e W' := by
  rcases r with q | ⟨er, q⟩
  · obtain ⟨h1, h2, h3⟩ := h
    exact ⟨h1, hp h2, h3⟩
  · obtain ⟨h1, h2, h3⟩ := h
    exact ⟨h1, hp h2, h3⟩

/-- Read of a play -/
theorem readPlay_any (A SA : Option Addr) (n c sn sc b Bs : Nat) (l : List UInt8) (S : List St) (K : Value) (calls : Int) (w : World)
    (hr : Reads w w.heap.size 1 A n (bcells l)) (hnc : n ≤ c) (hn : n ≤ 1099511627776) (hnil : A = none → c = 0) (hE : Env w)
    (hb : Blk w b 31 #[.slice SA sn sc, .slice none 0 0, .slice none 0 0, K, .int .i64 calls]) (hS : Reads w Bs 4 SA sn (S.flatMap stCells)) (hsb : Bs ≤ b) (hsn : sn ≤ 1099511627776) (hcalls : 0 ≤ calls) (hcalls2 : calls ≤ 1000)
    (hrb : 0 < n → ∀ ad, A = some ad → ad.block ≠ b) (hg : 0 ≠ b ∧ 1 ≠ b) :
    Calls Tryd.prog 11 #[.slice A n c, .func (.func 12) #[.pointer (some ⟨b, 0, none⟩)] #[]] w fun e w' => e = .returned (.tuple #[.int .i64 (rAt (play S l 0).2), .int .i64 (rE (play S l 0).2)]) ∧ Kp [b] w w' ∧
      (∃ vN vT, PlaySt w' w.heap.size b (.slice SA sn sc) vN vT (play S l 0).1.1 (play S l 0).1.2 (.pointer (some ⟨w.heap.size + 1 + 1, 0, none⟩)) (calls + 1)) ∧ Blk w' (w.heap.size + 1 + 1) 93 #[.slice none 0 0, .int .i64 (rAt (play S l 0).2), .bool true] := by
  have hbl := hb.lt
  have hmine : 0 < n → ∀ ad, A = some ad → ad.block < w.heap.size ∧ ad.block ≠ b := fun hn0 ad e => by
    obtain ⟨ad', e', hb', _⟩ := hr.2 hn0
    rw [e] at e'
    injection e' with e'
    exact ⟨by rw [e']; exact hb', hrb hn0 ad e⟩
  refine (read_any (fun x => x < w.heap.size ∧ x ≠ b) c n A l 12 #[.pointer (some ⟨b, 0, none⟩)] #[] [b] (fun W' => ∃ W, Kp [] w W ∧ W.heap.size = w.heap.size + 4 ∧ Played W b (w.heap.size + 1 + 1) (.slice SA sn sc) (calls + 1) (play S l 0).1 W') (play S l 0).2 w
    hr hnc (by omega) hnil (fun x hx => hx.1) hE.tab ⟨⟨hE.g1, hg.1⟩, ⟨hE.g2, hg.2⟩⟩ hmine (by simpa using hbl) (enter_of Tryd.func12 (by as_aux_lemma => kernel_rfl) (by as_aux_lemma => kernel_rfl)) ?_).mono ?_
  · intro W hk hz hR
    have hlen : l.length ≤ 1099511627776 := by have := hr.1; rw [bcells_length] at this; omega
    refine (run_any (fun x => x < w.heap.size ∧ x ≠ b) (w.heap.size + 1 + 1) c b sn sc Bs A SA l S K calls W hR (hb.kp hk (by simp)) (hS.kp hk (by omega) (fun _ h => by cases h)) (fun h => h.2 rfl) hsb (by omega) (by omega) hlen hsn hcalls hcalls2).mono ?_
    intro e W' h
    exact Did.imp h fun hp => ⟨W, hk, hz, hp⟩
  · rintro e w' ⟨rfl, hkx, ⟨W', ⟨W, hk, hz, vN, vT, hp⟩, hk', _, _⟩, hbR⟩
    refine ⟨rfl, hkx, ⟨vN, vT, ?_⟩, hbR⟩
    have hp' := hp.kp hk' (by simp; omega) (by simp; omega)
    exact ⟨hp'.blk, own_base hp'.nums (by omega), own_base hp'.txts (by omega)⟩

/-- All of a play -/
theorem allPlay_any (A SA : Option Addr) (n c sn sc b Bs : Nat) (l : List UInt8) (S : List St) (K : Value) (calls : Int) (w : World)
    (hr : Reads w w.heap.size 1 A n (bcells l)) (hnc : n ≤ c) (hn : n ≤ 1099511627776) (hnil : A = none → c = 0) (hE : Env w)
    (hb : Blk w b 31 #[.slice SA sn sc, .slice none 0 0, .slice none 0 0, K, .int .i64 calls]) (hS : Reads w Bs 4 SA sn (S.flatMap stCells)) (hsb : Bs ≤ b) (hsn : sn ≤ 1099511627776) (hcalls : 0 ≤ calls) (hcalls2 : calls ≤ 1000)
    (hrb : 0 < n → ∀ ad, A = some ad → ad.block ≠ b) (hg : 0 ≠ b ∧ 1 ≠ b) :
    Calls Tryd.prog 18 #[.slice A n c, .func (.func 12) #[.pointer (some ⟨b, 0, none⟩)] #[]] w fun e w' => e = .returned (.tuple #[.int .i64 (rAt (play S l 0).2), .int .i64 (rAllE l (play S l 0).2)]) ∧ Kp [b] w w' ∧
      (∃ vN vT, PlaySt w' w.heap.size b (.slice SA sn sc) vN vT (play S l 0).1.1 (play S l 0).1.2 (.pointer (some ⟨w.heap.size + 1 + 1, 0, none⟩)) (calls + 1)) := by
  have hbl := hb.lt
  have hmine : 0 < n → ∀ ad, A = some ad → ad.block < w.heap.size ∧ ad.block ≠ b := fun hn0 ad e => by
    obtain ⟨ad', e', hb', _⟩ := hr.2 hn0
    rw [e] at e'
    injection e' with e'
    exact ⟨by rw [e']; exact hb', hrb hn0 ad e⟩
  refine (all_any (fun x => x < w.heap.size ∧ x ≠ b) c n A l 12 #[.pointer (some ⟨b, 0, none⟩)] #[] [b] (fun W' => ∃ W, Kp [] w W ∧ W.heap.size = w.heap.size + 4 ∧ Played W b (w.heap.size + 1 + 1) (.slice SA sn sc) (calls + 1) (play S l 0).1 W') (play S l 0).2 w
    hr hnc (by omega) hnil (fun x hx => hx.1) hE.tab ⟨⟨hE.g1, hg.1⟩, ⟨hE.g2, hg.2⟩⟩ hmine (by simpa using hbl) (enter_of Tryd.func12 (by as_aux_lemma => kernel_rfl) (by as_aux_lemma => kernel_rfl)) ?_).mono ?_
  · intro W hk hz hR
    have hlen : l.length ≤ 1099511627776 := by have := hr.1; rw [bcells_length] at this; omega
    refine (run_any (fun x => x < w.heap.size ∧ x ≠ b) (w.heap.size + 1 + 1) c b sn sc Bs A SA l S K calls W hR (hb.kp hk (by simp)) (hS.kp hk (by omega) (fun _ h => by cases h)) (fun h => h.2 rfl) hsb (by omega) (by omega) hlen hsn hcalls hcalls2).mono ?_
    intro e W' h
    exact Did.imp h fun hp => ⟨W, hk, hz, hp⟩
  · rintro e w' ⟨rfl, hkx, ⟨W', ⟨W, hk, hz, vN, vT, hp⟩, hk', _, _⟩, hbR⟩
    refine ⟨rfl, hkx, ⟨vN, vT, ?_⟩⟩
    have hp' := hp.kp hk' (by simp; omega) (by simp; omega)
    exact ⟨hp'.blk, own_base hp'.nums (by omega), own_base hp'.txts (by omega)⟩
end Go.Proofs.YtbegingiedbldaaDoor
