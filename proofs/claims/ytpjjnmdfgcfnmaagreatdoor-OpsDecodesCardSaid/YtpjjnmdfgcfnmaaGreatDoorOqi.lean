/- ops.all: the error of an operation and of all that stands in it. ops.Right, ops.Flatten. -/
import Derived.Test.YtpjjnmdfgcfnmaaGreatDoorOq15
import Derived.Test.YtpjjnmdfgcfnmaaGreatDoorOq11
set_option linter.unusedVariables false
set_option linter.unusedSimpArgs false
namespace Go.Proofs.YtpjjnmdfgcfnmaaGreatDoor
open Go.RowKit

mutual
def OpC.allE : OpC → Int
  | .mk f S => if ownE f S.length ≠ 0 then ownE f S.length else allL f.t S
def allL (t : Int) : List OpC → Int
  | [] => 0
  | x :: r => if mayN x.f.t t = false then 110 else if x.allE ≠ 0 then x.allE else allL t r
end
def OpC.rightE (x : OpC) : Int := if x.allE ≠ 0 then x.allE else if (decide ((x.depth : Int) > 8) || decide ((x.parts : Int) > 1024)) || decide ((x.multis : Int) > 1024) then 3 else 0
theorem bulkS_len (L : List ByteArray) : L.length ≤ bulkS L := by
  unfold bulkS
  induction L with
  | nil => exact Nat.le_refl _
  | cons x r ih => rw [List.map_cons, List.sum_cons, List.length_cons]; omega
theorem bulkI_len (L : List (ByteArray × ByteArray)) : L.length ≤ bulkI L := by
  unfold bulkI
  induction L with
  | nil => exact Nat.le_refl _
  | cons x r ih => rw [List.map_cons, List.sum_cons, List.length_cons]; omega
theorem bulkA_len (L : List AclT) : L.length ≤ bulkA L := by
  unfold bulkA
  induction L with
  | nil => exact Nat.le_refl _
  | cons x r ih => rw [List.map_cons, List.sum_cons, List.length_cons]; omega
theorem OpF.sums {f : OpF} (h : f.bulk ≤ 1000000000) : f.texts.length * 16 ≤ 140737488355328 ∧ (f.I.length + f.L.length) * 32 ≤ 140737488355328 := by
  have h0 := bulkS_len f.K0
  have h1 := bulkS_len f.K1
  have h2 := bulkS_len f.K2
  have h3 := bulkS_len f.K3
  have h4 := bulkS_len f.K4
  have h5 := bulkI_len f.I
  have h6 := bulkA_len f.L
  unfold OpF.bulk at h
  unfold OpF.texts
  simp only [List.length_append]
  constructor <;> omega
theorem At.c0 {w : World} {lo : Option Nat} {x : OpC} {cs : List Value} (h : At w lo x cs) : cs[0]? = some (.int .i32 x.f.t) := by
  cases h
  rfl
end Go.Proofs.YtpjjnmdfgcfnmaaGreatDoor
/- ops.Right, ops.Flatten. -/
namespace Go.Proofs.YtpjjnmdfgcfnmaaGreatDoor
open Go.RowKit

set_option maxRecDepth 100000 in
set_option maxHeartbeats 4000000 in
theorem right_of {w : World} {lo : Option Nat} {x : OpC} {xs : List Value} (h : At w lo x xs) (hb : x.bulk ≤ 1000000000) (HA : ∀ W, Below w.heap.size w W → Calls Tryz.prog 33 #[.agg xs.toArray] W fun e w' => e = .returned (.int .i64 x.allE) ∧ Below W.heap.size W w') :
    Calls Tryz.prog 13 #[.agg xs.toArray] w fun e w' => e = .returned (.int .i64 x.rightE) ∧ Below w.heap.size w w' := by
  have HALL := Lib.hid HA
  have HCO : Hid (∀ W, Below w.heap.size w W → Calls Tryz.prog 16 #[.agg xs.toArray] W fun e w' => e = .returned (countV x) ∧ Below W.heap.size W w') := fun W hW => counts_any h W (Nat.le_trans x.nodes_bulk hb) hW
  have hcl := x.counts_le
  have hnb := x.nodes_bulk
  unfold OpC.rightE
  unfold countV at HCO
  obtain ⟨cs, hcs⟩ : ∃ cs : Array Value, cs = xs.toArray := ⟨_, rfl⟩
  have HI19 : Hid ((Tryz.prog.info? 29).map (·.size) = some cs.size) := by unfold Hid; rw [hcs, List.size_toArray, h.len]; exact isz_29
  rw [← hcs] at HALL HCO ⊢
  obtain ⟨w1, hw1⟩ : ∃ w1, w.alloc (.cells cs 29) = w1 := ⟨_, rfl⟩
  have HB1 : Hid (Below w.heap.size w w1) := by unfold Hid; rw [← hw1]; exact (Below.refl _ _).alloc (Nat.le_refl _) _
  have HN1 : Hid (Blk w1 w.heap.size 29 cs) := by unfold Hid; rw [← hw1]; exact Blk.new _ _ _
  generalize x.allE = ae at HALL ⊢
  generalize x.parts = p at HCO hcl ⊢
  generalize x.multis = m at HCO hcl ⊢
  generalize x.depth = d at HCO hcl ⊢
  have hp : p ≤ 1000000000 := by omega
  have hm : m ≤ 1000000000 := by omega
  have hd : d ≤ 1000000000 := by omega
  clear hcl hnb h hb hcs HA
  by_cases ho : ae = 0
  rotate_left
  · rw [if_pos ho]
    have hob : (ae != 0) = true := by simpa using ho
    clear ho HCO
    go_enter Tryz.func13, Tryz.ntmps13
    go_wp2_with (first
      | (refine wpList_load_row rfl 29 (.tmp 1) rfl w.heap.size rfl 29 _ _ _ HN1.out Tryz.underlying29 rfl HI19.out ?_)
      | (go_at_call 33
         refine (HALL.out _ HB1.out).mono ?_
         rintro e w3 ⟨rfl, hb⟩
         have HB3 : Hid (Below w.heap.size w w3) := HB1.out.trans (hb.mono HB1.out.size)
         clear hb))
    go_ret
    exact ⟨rfl, HB3.out⟩
  rw [if_neg (by simpa using ho)]
  subst ho
  rcases Nat.lt_or_ge 8 d with h1 | h1
  case' inl => have hr : ((decide ((d : Int) > 8) || decide ((p : Int) > 1024)) || decide ((m : Int) > 1024)) = true := by simp; omega
  case' inr =>
    rcases Nat.lt_or_ge 1024 p with h2 | h2
    case' inl => have hr : ((decide ((d : Int) > 8) || decide ((p : Int) > 1024)) || decide ((m : Int) > 1024)) = true := by simp; omega
    case' inr =>
      rcases Nat.lt_or_ge 1024 m with h3 | h3
      case' inl => have hr : ((decide ((d : Int) > 8) || decide ((p : Int) > 1024)) || decide ((m : Int) > 1024)) = true := by simp; omega
      case' inr => have hr : ((decide ((d : Int) > 8) || decide ((p : Int) > 1024)) || decide ((m : Int) > 1024)) = false := by simp; omega
  all_goals
    rw [hr]
    clear hr
    go_enter Tryz.func13, Tryz.ntmps13
    go_wp2_with (first
      | (refine wpList_load_row rfl 29 (.tmp 1) rfl w.heap.size rfl 29 _ _ _ HN1.out Tryz.underlying29 rfl HI19.out ?_)
      | (go_at_call 33
         refine (HALL.out _ HB1.out).mono ?_
         rintro e w3 ⟨rfl, hb⟩
         have HB3 : Hid (Below w.heap.size w w3) := HB1.out.trans (hb.mono HB1.out.size)
         have HN3 : Hid (Blk w3 w.heap.size 29 cs) := HN1.out.below hb HN1.out.lt
         clear hb)
      | (refine wpList_load_row rfl 29 (.tmp 1) rfl w.heap.size rfl 29 _ _ _ HN3.out Tryz.underlying29 rfl HI19.out ?_)
      | (go_at_call 16
         refine (HCO.out _ HB3.out).mono ?_
         rintro e w4 ⟨rfl, hb⟩
         have HB4 : Hid (Below w.heap.size w w4) := HB3.out.trans (hb.mono HB3.out.size)
         clear hb))
    go_ret
    exact ⟨rfl, HB4.out⟩
/-- a list of operations in memory of its own -/
def Listed (w : World) (xs : List OpC) (e : Ending) (w' : World) : Prop :=
  ∃ A c R base, e = .returned (.slice A R.length c) ∧ R.map Prod.fst = xs ∧ w.heap.size ≤ base ∧ FlatSt base (.slice A R.length c) R w' ∧ Below w.heap.size w w'
def OpC.flatten (x : OpC) : List OpC := if x.rightE ≠ 0 then [] else x.flat
set_option maxRecDepth 100000 in
set_option maxHeartbeats 4000000 in
theorem flatten_of {w : World} {lo : Option Nat} {x : OpC} {xs : List Value} (h : At w lo x xs) (hn : x.nodes ≤ 1000000) (HR0 : ∀ W, Below w.heap.size w W → Calls Tryz.prog 13 #[.agg xs.toArray] W fun e w' => e = .returned (.int .i64 x.rightE) ∧ Below W.heap.size W w') :
    Calls Tryz.prog 19 #[.agg xs.toArray] w (Listed w x.flatten) := by
  have HR := Lib.hid HR0
  have HF : Hid (∀ W, Below w.heap.size w W → Calls Tryz.prog 38 #[.slice none 0 0, .agg xs.toArray] W (Flatted W.heap.size W [] x.flat)) := fun W hW => flat_any (h.later hW) W.heap.size W none 0 0 [] (Nat.le_refl _) (Below.refl _ _) (FlatSt.nil W) rfl (by omega)
  unfold OpC.flatten
  obtain ⟨cs, hcs⟩ : ∃ cs : Array Value, cs = xs.toArray := ⟨_, rfl⟩
  have HI19 : Hid ((Tryz.prog.info? 29).map (·.size) = some cs.size) := by unfold Hid; rw [hcs, List.size_toArray, h.len]; exact isz_29
  rw [← hcs] at HR HF ⊢
  obtain ⟨w1, hw1⟩ : ∃ w1, w.alloc (.cells cs 29) = w1 := ⟨_, rfl⟩
  have HB1 : Hid (Below w.heap.size w w1) := by unfold Hid; rw [← hw1]; exact (Below.refl _ _).alloc (Nat.le_refl _) _
  have HN1 : Hid (Blk w1 w.heap.size 29 cs) := by unfold Hid; rw [← hw1]; exact Blk.new _ _ _
  generalize x.rightE = re at HR ⊢
  clear h hn hcs HR0
  by_cases ho : re = 0
  rotate_left
  · rw [if_pos ho]
    have hob : (re != 0) = true := by simpa using ho
    clear ho HF
    go_enter Tryz.func19, Tryz.ntmps19
    go_wp2_with (first
      | (refine wpList_load_row rfl 29 (.tmp 1) rfl w.heap.size rfl 29 _ _ _ HN1.out Tryz.underlying29 rfl HI19.out ?_)
      | (go_at_call 13
         refine (HR.out _ HB1.out).mono ?_
         rintro e w3 ⟨rfl, hb⟩
         have HB3 : Hid (Below w.heap.size w w3) := HB1.out.trans (hb.mono HB1.out.size)
         clear hb))
    go_ret
    exact ⟨none, 0, [], _, rfl, rfl, HB3.out.size, FlatSt.nil _, HB3.out⟩
  rw [if_neg (by simpa using ho)]
  subst ho
  go_enter Tryz.func19, Tryz.ntmps19
  go_wp2_with (first
      | (refine wpList_load_row rfl 29 (.tmp 1) rfl w.heap.size rfl 29 _ _ _ HN1.out Tryz.underlying29 rfl HI19.out ?_)
      | (go_at_call 13
         refine (HR.out _ HB1.out).mono ?_
         rintro e w3 ⟨rfl, hb⟩
         have HB3 : Hid (Below w.heap.size w w3) := HB1.out.trans (hb.mono HB1.out.size)
         have HN3 : Hid (Blk w3 w.heap.size 29 cs) := HN1.out.below hb HN1.out.lt
         clear hb)
      | (refine wpList_load_row rfl 29 (.tmp 1) rfl w.heap.size rfl 29 _ _ _ HN3.out Tryz.underlying29 rfl HI19.out ?_)
      | (go_at_call 38
         refine (HF.out _ HB3.out).mono ?_
         rintro e w4 ⟨A', c', R', rfl, hR, hF, hb⟩
         have HRR := Lib.hid hR
         have HFF := Lib.hid hF
         have HB4 := Lib.hid hb
         clear hR hF hb))
  go_ret
  exact ⟨A', c', R', _, rfl, HRR.out, HB3.out.size, HFF.out, HB3.out.trans (HB4.out.mono HB3.out.size)⟩
end Go.Proofs.YtpjjnmdfgcfnmaaGreatDoor
