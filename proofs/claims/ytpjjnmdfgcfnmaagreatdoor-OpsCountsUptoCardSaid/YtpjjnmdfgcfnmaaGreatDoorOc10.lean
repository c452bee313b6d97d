/- The document's Right, Flatten. (printed by gen_c10.py) -/
import Derived.Test.YtpjjnmdfgcfnmaaGreatDoorOcc
import Derived.Test.YtpjjnmdfgcfnmaaGreatDoorOc3
set_option linter.unusedVariables false
set_option linter.unusedSimpArgs false
namespace Go.Proofs.YtpjjnmdfgcfnmaaGreatDoor
open Go.RowKit

set_option maxRecDepth 100000 in
set_option maxHeartbeats 4000000 in
theorem refRight_any {w : World} {lo : Option Nat} {x : OpC} {xs : List Value} (h : At w lo x xs) (hnb : x.nodes ≤ 1000000000) :
    Calls Tryz.prog 14 #[.agg xs.toArray] w fun e w' => e = .returned (.int .i64 x.rightE) ∧ Below w.heap.size w w' := by
  have HALL : Hid (∀ W, Below w.heap.size w W → Calls Tryz.prog 34 #[.agg xs.toArray] W fun e w' => e = .returned (.int .i64 x.allE) ∧ Below W.heap.size W w') := fun W hW => refOwn_any h W hW
  have HCO : Hid (∀ W, Below w.heap.size w W → Calls Tryz.prog 17 #[.agg xs.toArray] W fun e w' => e = .returned (countV x) ∧ Below W.heap.size W w') := fun W hW => refCount_any h W hnb hW
  have hcl := x.counts_le
  unfold OpC.rightE
  unfold countV at HCO
  obtain ⟨cs, hcs⟩ : ∃ cs : Array Value, cs = xs.toArray := ⟨_, rfl⟩
  have HI19 : Hid ((Tryz.prog.info? 29).map (·.size) = some cs.size) := by unfold Hid; rw [hcs, List.size_toArray, h.len]; exact isz_29
  rw [← hcs] at HALL HCO ⊢
  obtain ⟨w1, hw1⟩ : ∃ w1, w.alloc (.cells cs 29) = w1 := ⟨_, rfl⟩
  have HB1 : Hid (Below w.heap.size w w1) := by unfold Hid; rw [← hw1]; exact (Below.refl _ _).alloc (Nat.le_refl _) _
  have HN1 : Hid (Blk w1 w.heap.size 29 cs) := by unfold Hid; rw [← hw1]; exact Blk.new _ _ _
  generalize x.allE = ae at HALL ⊢
  generalize x.parts = p at HCO hcl ⊢
  generalize x.multis = m at HCO hcl ⊢
  generalize x.depth = d at HCO hcl ⊢
  have hp : p ≤ 1000000000 := by omega
  have hm : m ≤ 1000000000 := by omega
  have hd : d ≤ 1000000000 := by omega
  clear hcl hnb h hcs
  by_cases ho : ae = 0
  rotate_left
  · rw [if_pos ho]
    have hob : (ae != 0) = true := by simpa using ho
    clear ho HCO
    go_enter Tryz.func14, Tryz.ntmps14
    go_wp2_with (first
      | (refine wpList_load_row rfl 29 (.tmp 1) rfl w.heap.size rfl 29 _ _ _ HN1.out Tryz.underlying29 rfl HI19.out ?_)
      | (go_at_call 34
         refine (HALL.out _ HB1.out).mono ?_
         rintro e w3 ⟨rfl, hb⟩
         have HB3 : Hid (Below w.heap.size w w3) := HB1.out.trans (hb.mono HB1.out.size)
         clear hb))
    go_ret
    exact ⟨rfl, HB3.out⟩
  rw [if_neg (by simpa using ho)]
  subst ho
  rcases Nat.lt_or_ge 8 d with h1 | h1
  case' inl => have hr : ((decide ((d : Int) > 8) || decide ((p : Int) > 1024)) || decide ((m : Int) > 1024)) = true := by simp; omega
  case' inr =>
    rcases Nat.lt_or_ge 1024 p with h2 | h2
    case' inl => have hr : ((decide ((d : Int) > 8) || decide ((p : Int) > 1024)) || decide ((m : Int) > 1024)) = true := by simp; omega
    case' inr =>
      rcases Nat.lt_or_ge 1024 m with h3 | h3
      case' inl => have hr : ((decide ((d : Int) > 8) || decide ((p : Int) > 1024)) || decide ((m : Int) > 1024)) = true := by simp; omega
      case' inr => have hr : ((decide ((d : Int) > 8) || decide ((p : Int) > 1024)) || decide ((m : Int) > 1024)) = false := by simp; omega
  all_goals
    rw [hr]
    clear hr
    go_enter Tryz.func14, Tryz.ntmps14
    go_wp2_with (first
      | (refine wpList_load_row rfl 29 (.tmp 1) rfl w.heap.size rfl 29 _ _ _ HN1.out Tryz.underlying29 rfl HI19.out ?_)
      | (go_at_call 34
         refine (HALL.out _ HB1.out).mono ?_
         rintro e w3 ⟨rfl, hb⟩
         have HB3 : Hid (Below w.heap.size w w3) := HB1.out.trans (hb.mono HB1.out.size)
         have HN3 : Hid (Blk w3 w.heap.size 29 cs) := HN1.out.below hb HN1.out.lt
         clear hb)
      | (refine wpList_load_row rfl 29 (.tmp 1) rfl w.heap.size rfl 29 _ _ _ HN3.out Tryz.underlying29 rfl HI19.out ?_)
      | (go_at_call 17
         refine (HCO.out _ HB3.out).mono ?_
         rintro e w4 ⟨rfl, hb⟩
         have HB4 : Hid (Below w.heap.size w w4) := HB3.out.trans (hb.mono HB3.out.size)
         clear hb))
    go_ret
    exact ⟨rfl, HB4.out⟩
set_option maxRecDepth 100000 in
set_option maxHeartbeats 4000000 in
theorem refFlatten_any {w : World} {lo : Option Nat} {x : OpC} {xs : List Value} (h : At w lo x xs) (hn : x.nodes ≤ 1000000) :
    Calls Tryz.prog 20 #[.agg xs.toArray] w (RFlat w w x.flatten) := by
  have HR : Hid (∀ W, Below w.heap.size w W → Calls Tryz.prog 14 #[.agg xs.toArray] W fun e w' => e = .returned (.int .i64 x.rightE) ∧ Below W.heap.size W w') := fun W hW => refRight_any (h.later hW) (by omega)
  have HF : Hid (∀ W, Below w.heap.size w W → Calls Tryz.prog 39 #[.agg xs.toArray] W (RFlat w W x.flat)) := fun W hW => refFlat_any h W hn hW
  unfold OpC.flatten
  obtain ⟨cs, hcs⟩ : ∃ cs : Array Value, cs = xs.toArray := ⟨_, rfl⟩
  have HI19 : Hid ((Tryz.prog.info? 29).map (·.size) = some cs.size) := by unfold Hid; rw [hcs, List.size_toArray, h.len]; exact isz_29
  rw [← hcs] at HR HF ⊢
  obtain ⟨w1, hw1⟩ : ∃ w1, w.alloc (.cells cs 29) = w1 := ⟨_, rfl⟩
  have HB1 : Hid (Below w.heap.size w w1) := by unfold Hid; rw [← hw1]; exact (Below.refl _ _).alloc (Nat.le_refl _) _
  have HN1 : Hid (Blk w1 w.heap.size 29 cs) := by unfold Hid; rw [← hw1]; exact Blk.new _ _ _
  generalize x.rightE = re at HR ⊢
  clear h hn hcs
  by_cases ho : re = 0
  rotate_left
  · rw [if_pos ho]
    have hob : (re != 0) = true := by simpa using ho
    clear ho HF
    go_enter Tryz.func20, Tryz.ntmps20
    go_wp2_with (first
      | (refine wpList_load_row rfl 29 (.tmp 1) rfl w.heap.size rfl 29 _ _ _ HN1.out Tryz.underlying29 rfl HI19.out ?_)
      | (go_at_call 14
         refine (HR.out _ HB1.out).mono ?_
         rintro e w3 ⟨rfl, hb⟩
         have HB3 : Hid (Below w.heap.size w w3) := HB1.out.trans (hb.mono HB1.out.size)
         clear hb))
    go_ret
    exact ⟨none, 0, [], rfl, rfl, World.ownsRow_nil _ _ _ _, (fun _ hq => nomatch hq), HB3.out⟩
  rw [if_neg (by simpa using ho)]
  subst ho
  go_enter Tryz.func20, Tryz.ntmps20
  go_wp2_with (first
      | (refine wpList_load_row rfl 29 (.tmp 1) rfl w.heap.size rfl 29 _ _ _ HN1.out Tryz.underlying29 rfl HI19.out ?_)
      | (go_at_call 14
         refine (HR.out _ HB1.out).mono ?_
         rintro e w3 ⟨rfl, hb⟩
         have HB3 : Hid (Below w.heap.size w w3) := HB1.out.trans (hb.mono HB1.out.size)
         have HN3 : Hid (Blk w3 w.heap.size 29 cs) := HN1.out.below hb HN1.out.lt
         clear hb)
      | (refine wpList_load_row rfl 29 (.tmp 1) rfl w.heap.size rfl 29 _ _ _ HN3.out Tryz.underlying29 rfl HI19.out ?_)
      | (go_at_call 39
         refine (HF.out _ HB3.out).mono ?_
         rintro e w4 ⟨A', c', R', rfl, hR, hF, hA, hb⟩
         have HRR := Lib.hid hR
         have HFF := Lib.hid hF
         have HAA := Lib.hid hA
         have HB4 := Lib.hid hb
         clear hR hF hA hb))
  go_ret
  exact ⟨A', c', R', rfl, HRR.out, own_lowO HFF.out HB3.out.size, HAA.out, HB3.out.trans (HB4.out.mono HB3.out.size)⟩
end Go.Proofs.YtpjjnmdfgcfnmaaGreatDoor
