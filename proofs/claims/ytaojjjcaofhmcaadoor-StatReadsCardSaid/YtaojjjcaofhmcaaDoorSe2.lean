/- The law StatBack: the walk, by what its calls come to. (printed by gen_e2.py) -/
import Derived.Test.YtaojjjcaofhmcaaDoorSe1
import Derived.Test.YtaojjjcaofhmcaaDoorSa4
set_option linter.unusedVariables false
set_option linter.unusedSimpArgs false
namespace Go.Proofs.YtaojjjcaofhmcaaDoor
open Go.RowKit

/-- a row of bytes that a call handed out -/
def Got (w : World) (A : Option Addr) (n c : Nat) (l : List UInt8) : Prop := Reads w w.heap.size 1 A n (bcells l) ∧ n ≤ c ∧ (A = none → c = 0)
theorem Got.of_own {w : World} {B : Nat} {A : Option Addr} {n c : Nat} {l : List UInt8} (h : w.ownsRow B 5 1 (.slice A n c) n (bcells l)) : Got w A n c l := ⟨Reads.of_own h, own_cap h, fun e => (own_nil h e).2⟩
theorem Got.later {w w' : World} {A : Option Addr} {n c : Nat} {l : List UInt8} (h : Got w A n c l) (hb : Below w.heap.size w w') : Got w' A n c l := ⟨(h.1.below hb).more hb.size, h.2⟩
theorem Got.str {w : World} {A : Option Addr} {n c : Nat} {l : List UInt8} (h : Got w A n c l) : (convert 24 9 (.slice A n c)).run Tryd.prog w = .ok (.string ⟨l.toArray⟩) w := run_string_of_bytes Tryd.underlying24 Tryd.underlying5 h.1 9 Tryd.underlying9
theorem stat_eqv (x0 x1 x2 x3 x4 x5 x6 x7 x8 x9 x10 : Int) (w : World) :
    (binOp .eql 23 (.agg #[.int .i64 x0, .int .i64 x1, .int .i64 x2, .int .i64 x3, .int .i32 x4, .int .i32 x5, .int .i32 x6, .int .i64 x7, .int .i32 x8, .int .i32 x9, .int .i64 x10]) (.agg #[.int .i64 x0, .int .i64 x1, .int .i64 x2, .int .i64 x3, .int .i32 x4, .int .i32 x5, .int .i32 x6, .int .i64 x7, .int .i32 x8, .int .i32 x9, .int .i64 x10])).run Tryd.prog w = .ok (.bool true) w := by
  simp [go_sem]

/-- rows compared, in an operation with a guard that lets it through -/
theorem wpList_eql_agg_g {P : Program} {ops : Array Oper} {rest : List Oper} {o : Oper} {a : Act} {w : World} {Q : Exit → Act → World → Prop} (hw : Region.wanted o (yielded ops a.tmps) = true) (t : TypeId) (x y : Operand) (t' : TypeId) (ho : o.op = .binOp .eql t x y t') (xs ys : Array Value) (hx : a.eval x = .agg xs) (hy : a.eval y = .agg ys)
    (hm : P.eqGuardType P.depth t = false) (b : Bool) (hr : (binOp .eql t (.agg xs) (.agg ys)).run P w = .ok (.bool b) w) (h : wpList P ops Q rest (a.put o.dst (.bool b)) w) : wpList P ops Q (o :: rest) a w :=
  wpList_step fun K hK => by
    rw [if_pos hw]
    unfold Oper.wp execOp
    simp only [ho, hx, hy, Sem.run_bind, run_eqGuard_agg w .eql t x y xs ys hm, Result.andThen_ok, hr]
    exact hK _ _ h
/-- a row loaded, in an operation with a guard that lets it through -/
theorem wpList_load_row_g {P : Program} {ops : Array Oper} {rest : List Oper} {o : Oper} {a : Act} {w : World} {Q : Exit → Act → World → Prop} (hw : Region.wanted o (yielded ops a.tmps) = true) (ty : TypeId) (x : Operand) (ho : o.op = .load ty x)
    (g : Nat) (hx : a.eval x = .pointer (some ⟨g, 0, none⟩)) (t : TypeId) (cs : Array Value) (fr : Nat × Nat) (d : TypeDesc) (hg : w.heap[g]? = some (.cells cs t fr))
    (hu : P.underlying ty = some d) (hd : (match d with | .struct _ | .array _ _ => true | _ => false) = true) (hi : (P.info? ty).map (·.size) = some cs.size)
    (h : wpList P ops Q rest (a.put o.dst (.agg cs)) w) : wpList P ops Q (o :: rest) a w :=
  wpList_step fun K hK => by rw [if_pos hw]; exact wp_load_row ty x ho g hx t cs fr d hg hu hd hi (hK _ _ h)

set_option maxRecDepth 100000 in
set_option maxHeartbeats 4000000 in
theorem back_walk00 (nc mc sc : Array Value) (bA : Option Addr) (bn bc : Nat) (nb lb rb : List UInt8) (E E2 : Int) (w : World) (hE2 : E2 ≠ 0) (dn an : Nat) (PD PA : List Value) (hE : E ≠ 0)
    (ZN : Hid ((Tryd.prog.info? 32).map (·.size) = some nc.size)) (ZK : Hid (∀ X Y, (Tryd.prog.info? 32).map (·.size) = some (reNode nc X Y).size)) (ZM : Hid ((Tryd.prog.info? 32).map (·.size) = some mc.size)) (ZS : Hid ((Tryd.prog.info? 23).map (·.size) = some sc.size))
    (N17 : Hid (∀ X Y, (reNode nc X Y).size = 17)) (M17 : Hid (mc.size = 17)) (S11 : Hid (sc.size = 11)) (ONN : Hid (∀ D k A m, (reNode nc (.slice D dn k) (.slice A an m)).all (·.oneCell') = true)) (ONM : Hid (mc.all (·.oneCell') = true)) (ONS : Hid (sc.all (·.oneCell') = true))
    (SE : Hid (∀ W, (binOp .eql 23 (.agg sc) (.agg sc)).run Tryd.prog W = .ok (.bool true) W)) (RB : Hid (Reads w w.heap.size 1 bA bn (bcells lb)))
    (AL : Hid (∀ W, Below w.heap.size w W → Calls Tryd.prog 27 #[] W fun e w' => e = .returned (.bool true) ∧ Below W.heap.size W w'))
    (EN : Hid (∀ W, Below w.heap.size w W → Calls Tryd.prog 15 #[.agg nc] W fun e w' => e = .returned (.tuple #[.slice none 0 0, .int .i64 E]) ∧ Below W.heap.size W w'))
    (RI : Hid (∀ W, Below w.heap.size w W → Calls Tryd.prog 18 #[.agg nc] W fun e w' => e = .returned (.int .i64 E) ∧ Below W.heap.size W w'))
    (DB : Hid (∀ W, Below w.heap.size w W → Calls Tryd.prog 23 #[.slice bA bn bc] W fun e w' => e = .returned (.tuple #[.agg mc, .int .i64 E2]) ∧ Below W.heap.size W w'))
    (RC : Hid (∀ W, Calls Tryd.prog 10 #[.agg sc] W fun e w' => ∃ A c, e = .returned (.slice A 68 c) ∧ Got w' A 68 c rb ∧ Below W.heap.size W w'))
    (RR : Hid (∀ W A c, Below w.heap.size w W → Got W A 68 c rb → Calls Tryd.prog 25 #[.slice A 68 c] W fun e w' => e = .returned (.tuple #[.agg sc, .int .i64 0]) ∧ Below W.heap.size W w')) :
    Calls Tryd.prog 8 #[.agg nc, .slice bA bn bc, .agg sc] w fun e w' => e = .returned (.bool true) ∧ Below w.heap.size w w' := by
  obtain ⟨w1, hw1⟩ : ∃ w1, w.alloc (.cells nc 32) = w1 := ⟨_, rfl⟩
  obtain ⟨w2, hw2⟩ : ∃ w2, w1.alloc (.cells sc 23) = w2 := ⟨_, rfl⟩
  have hz1 : w1.heap.size = w.heap.size + 1 := by rw [← hw1]; simp
  have hz2 : w2.heap.size = w.heap.size + 2 := by rw [← hw2]; simp [hz1]
  have hb1 : Below w.heap.size w w1 := by rw [← hw1]; exact (Below.refl _ _).alloc (Nat.le_refl _) _
  have HBw2 : Hid (Below w.heap.size w w2) := by unfold Hid; rw [← hw2]; exact hb1.alloc (by omega) _
  have HNw2 : Hid (Blk w2 w.heap.size 32 nc) := by unfold Hid; rw [← hw2, ← hw1]; exact (Blk.new _ _ _).alloc _
  have HSw2 : Hid (Blk w2 (w.heap.size + 1) 23 sc) := by unfold Hid; rw [← hw2]; exact Blk.new' hz1.symm
  clear hb1
  go_enter Tryd.func8, Tryd.ntmps8
  go_wp2_with (first
    | (go_at_call 27
       refine (AL.out _ HBw2.out).mono ?_
       clear AL
       rintro e w3 ⟨rfl, hb3⟩
       have hz3 := hb3.size
       have HBw3 := Lib.hid (HBw2.out.trans (hb3.mono HBw2.out.size))
       have HNw3 := Lib.hid (HNw2.out.below hb3 HNw2.out.lt)
       have HSw3 := Lib.hid (HSw2.out.below hb3 HSw2.out.lt)
       clear hb3)
    | (refine wpList_load_row rfl 32 (.tmp 3) rfl w.heap.size rfl 32 _ _ _ HNw3.out Tryd.underlying32 rfl ZN.out ?_)
    | (go_at_call 15
       refine (EN.out _ HBw3.out).mono ?_
       clear EN
       rintro e w4 ⟨rfl, hb3⟩
       have hz4 := hb3.size
       have HBw4 := Lib.hid (HBw3.out.trans (hb3.mono HBw3.out.size))
       have HNw4 := Lib.hid (HNw3.out.below hb3 HNw3.out.lt)
       have HSw4 := Lib.hid (HSw3.out.below hb3 HSw3.out.lt)
       clear hb3)
    | (refine wpList_load_row rfl 32 (.tmp 3) rfl w.heap.size rfl 32 _ _ _ HNw4.out Tryd.underlying32 rfl ZN.out ?_)
    | (go_at_call 18
       refine (RI.out _ HBw4.out).mono ?_
       clear RI
       rintro e w5 ⟨rfl, hb3⟩
       have hz5 := hb3.size
       have HBw5 := Lib.hid (HBw4.out.trans (hb3.mono HBw4.out.size))
       have HNw5 := Lib.hid (HNw4.out.below hb3 HNw4.out.lt)
       have HSw5 := Lib.hid (HSw4.out.below hb3 HSw4.out.lt)
       clear hb3))
  go_wp2_with (first
    | (go_at_call 23
       refine (DB.out _ HBw5.out).mono ?_
       clear DB
       rintro e x1 ⟨rfl, hb1⟩
       have hzx1 := hb1.size
       have HBx1 := Lib.hid (HBw5.out.trans (hb1.mono HBw5.out.size))
       have HSx1 := Lib.hid (HSw5.out.below hb1 HSw5.out.lt)
       clear hb1)
    | (refine wpList_store_row rfl 32 (.tmp 11) (.tmp 52) rfl x1.heap.size mc rfl rfl 32 _ (Blk.new _ _ _) ZM.out (by rw [M17.out]; first | done | rfl) ONM.out ?_
       generalize hww : World.setRow _ _ _ = x2
       have hb5 : Below x1.heap.size x1 x2 := by rw [← hww]; exact below_setRow' (by go_grown) (Nat.le_refl _) _
       have HMx2 : Hid (Blk x2 x1.heap.size 32 mc) := by unfold Hid; rw [← hww]; exact cells_setRow (Blk.new _ _ _)
       have hzx2 := hb5.size
       have HBx2 := Lib.hid (HBx1.out.trans (hb5.mono HBx1.out.size))
       have HSx2 := Lib.hid (HSx1.out.below hb5 HSx1.out.lt)
  
       clear hb5 hww)
    | (refine wpList_load_row rfl 23 (.tmp 5) rfl (w.heap.size + 1) rfl 23 _ _ _ HSx2.out Tryd.underlying23 rfl ZS.out ?_)
    | (go_at_call 10
       refine (RC.out _).mono ?_
       clear RC
       rintro e x4 ⟨A8, c8, rfl, hg8, hb8⟩
       have hzx4 := hb8.size
       have HBx4 := Lib.hid (HBx2.out.trans (hb8.mono HBx2.out.size))
       have HSx4 := Lib.hid (HSx2.out.below hb8 HSx2.out.lt)
       have HG8 := Lib.hid hg8
       clear hb8 hg8)
    | (go_at_call 25
       refine (RR.out _ A8 c8 HBx4.out HG8.out).mono ?_
       clear RR
       rintro e x5 ⟨rfl, hb8⟩
       have hzx5 := hb8.size
       have HBx5 := Lib.hid (HBx4.out.trans (hb8.mono HBx4.out.size))
       have HSx5 := Lib.hid (HSx4.out.below hb8 HSx4.out.lt)
       clear hb8)
    | (refine wpList_store_row rfl 23 (.tmp 14) (.tmp 74) rfl x5.heap.size sc rfl rfl 23 _ (Blk.new _ _ _) ZS.out (by rw [S11.out]; first | done | rfl) ONS.out ?_
       generalize hww : World.setRow _ _ _ = x6
       have hb5 : Below x5.heap.size x5 x6 := by rw [← hww]; exact below_setRow' (by go_grown) (Nat.le_refl _) _
       have HTx6 : Hid (Blk x6 x5.heap.size 23 sc) := by unfold Hid; rw [← hww]; exact cells_setRow (Blk.new _ _ _)
       have hzx6 := hb5.size
       have HBx6 := Lib.hid (HBx5.out.trans (hb5.mono HBx5.out.size))
       have HSx6 := Lib.hid (HSx5.out.below hb5 HSx5.out.lt)
       clear hb5 hww)
    | (refine wpList_load_row_g (by rfl) 23 (.tmp 5) rfl (w.heap.size + 1) rfl 23 _ _ _ HSx6.out Tryd.underlying23 rfl ZS.out ?_)
    | (refine wpList_load_row_g (by rfl) 23 (.tmp 14) rfl x5.heap.size rfl 23 _ _ _ HTx6.out Tryd.underlying23 rfl ZS.out ?_)
    | (refine wpList_eql_agg_g (by rfl) 23 (.tmp 79) (.tmp 80) _ rfl sc sc rfl rfl (by as_aux_lemma => kernel_rfl) true (SE.out x6) ?_))
  go_ret
  exact ⟨rfl, HBx6.out⟩
set_option maxRecDepth 100000 in
set_option maxHeartbeats 4000000 in
theorem back_walk01 (nc sc : Array Value) (bA : Option Addr) (bn bc : Nat) (nb lb rb : List UInt8) (E E2 : Int) (w : World) (dn an : Nat) (PD PA : List Value) (hE : E ≠ 0)
    (ZN : Hid ((Tryd.prog.info? 32).map (·.size) = some nc.size)) (ZK : Hid (∀ X Y, (Tryd.prog.info? 32).map (·.size) = some (reNode nc X Y).size)) (ZS : Hid ((Tryd.prog.info? 23).map (·.size) = some sc.size))
    (N17 : Hid (∀ X Y, (reNode nc X Y).size = 17)) (S11 : Hid (sc.size = 11)) (ONN : Hid (∀ D k A m, (reNode nc (.slice D dn k) (.slice A an m)).all (·.oneCell') = true)) (ONS : Hid (sc.all (·.oneCell') = true))
    (SE : Hid (∀ W, (binOp .eql 23 (.agg sc) (.agg sc)).run Tryd.prog W = .ok (.bool true) W)) (RB : Hid (Reads w w.heap.size 1 bA bn (bcells lb)))
    (AL : Hid (∀ W, Below w.heap.size w W → Calls Tryd.prog 27 #[] W fun e w' => e = .returned (.bool true) ∧ Below W.heap.size W w'))
    (EN : Hid (∀ W, Below w.heap.size w W → Calls Tryd.prog 15 #[.agg nc] W fun e w' => e = .returned (.tuple #[.slice none 0 0, .int .i64 E]) ∧ Below W.heap.size W w'))
    (RI : Hid (∀ W, Below w.heap.size w W → Calls Tryd.prog 18 #[.agg nc] W fun e w' => e = .returned (.int .i64 E) ∧ Below W.heap.size W w'))
    (DB : Hid (∀ W, Below w.heap.size w W → Calls Tryd.prog 23 #[.slice bA bn bc] W fun e w' => ∃ mc, (Tryd.prog.info? 32).map (·.size) = some mc.size ∧ mc.size = 17 ∧ mc.all (·.oneCell') = true ∧ e = .returned (.tuple #[.agg mc, .int .i64 0]) ∧ (∀ W', Below w'.heap.size w' W' → Calls Tryd.prog 15 #[.agg mc] W' fun e w'' => ∃ A n c, e = .returned (.tuple #[.slice A n c, .int .i64 0]) ∧ Got w'' A n c lb ∧ Below W'.heap.size W' w'') ∧ Below W.heap.size W w'))
    (RC : Hid (∀ W, Calls Tryd.prog 10 #[.agg sc] W fun e w' => ∃ A c, e = .returned (.slice A 68 c) ∧ Got w' A 68 c rb ∧ Below W.heap.size W w'))
    (RR : Hid (∀ W A c, Below w.heap.size w W → Got W A 68 c rb → Calls Tryd.prog 25 #[.slice A 68 c] W fun e w' => e = .returned (.tuple #[.agg sc, .int .i64 0]) ∧ Below W.heap.size W w')) :
    Calls Tryd.prog 8 #[.agg nc, .slice bA bn bc, .agg sc] w fun e w' => e = .returned (.bool true) ∧ Below w.heap.size w w' := by
  obtain ⟨w1, hw1⟩ : ∃ w1, w.alloc (.cells nc 32) = w1 := ⟨_, rfl⟩
  obtain ⟨w2, hw2⟩ : ∃ w2, w1.alloc (.cells sc 23) = w2 := ⟨_, rfl⟩
  have hz1 : w1.heap.size = w.heap.size + 1 := by rw [← hw1]; simp
  have hz2 : w2.heap.size = w.heap.size + 2 := by rw [← hw2]; simp [hz1]
  have hb1 : Below w.heap.size w w1 := by rw [← hw1]; exact (Below.refl _ _).alloc (Nat.le_refl _) _
  have HBw2 : Hid (Below w.heap.size w w2) := by unfold Hid; rw [← hw2]; exact hb1.alloc (by omega) _
  have HNw2 : Hid (Blk w2 w.heap.size 32 nc) := by unfold Hid; rw [← hw2, ← hw1]; exact (Blk.new _ _ _).alloc _
  have HSw2 : Hid (Blk w2 (w.heap.size + 1) 23 sc) := by unfold Hid; rw [← hw2]; exact Blk.new' hz1.symm
  clear hb1
  go_enter Tryd.func8, Tryd.ntmps8
  go_wp2_with (first
    | (go_at_call 27
       refine (AL.out _ HBw2.out).mono ?_
       clear AL
       rintro e w3 ⟨rfl, hb3⟩
       have hz3 := hb3.size
       have HBw3 := Lib.hid (HBw2.out.trans (hb3.mono HBw2.out.size))
       have HNw3 := Lib.hid (HNw2.out.below hb3 HNw2.out.lt)
       have HSw3 := Lib.hid (HSw2.out.below hb3 HSw2.out.lt)
       clear hb3)
    | (refine wpList_load_row rfl 32 (.tmp 3) rfl w.heap.size rfl 32 _ _ _ HNw3.out Tryd.underlying32 rfl ZN.out ?_)
    | (go_at_call 15
       refine (EN.out _ HBw3.out).mono ?_
       clear EN
       rintro e w4 ⟨rfl, hb3⟩
       have hz4 := hb3.size
       have HBw4 := Lib.hid (HBw3.out.trans (hb3.mono HBw3.out.size))
       have HNw4 := Lib.hid (HNw3.out.below hb3 HNw3.out.lt)
       have HSw4 := Lib.hid (HSw3.out.below hb3 HSw3.out.lt)
       clear hb3)
    | (refine wpList_load_row rfl 32 (.tmp 3) rfl w.heap.size rfl 32 _ _ _ HNw4.out Tryd.underlying32 rfl ZN.out ?_)
    | (go_at_call 18
       refine (RI.out _ HBw4.out).mono ?_
       clear RI
       rintro e w5 ⟨rfl, hb3⟩
       have hz5 := hb3.size
       have HBw5 := Lib.hid (HBw4.out.trans (hb3.mono HBw4.out.size))
       have HNw5 := Lib.hid (HNw4.out.below hb3 HNw4.out.lt)
       have HSw5 := Lib.hid (HSw4.out.below hb3 HSw4.out.lt)
       clear hb3))
  go_wp2_with (first
    | (go_at_call 23
       refine (DB.out _ HBw5.out).mono ?_
       clear DB
       rintro e x1 ⟨mc, hzm, hm17, honm, rfl, hen, hb1⟩
       have hzx1 := hb1.size
       have HBx1 := Lib.hid (HBw5.out.trans (hb1.mono HBw5.out.size))
       have HSx1 := Lib.hid (HSw5.out.below hb1 HSw5.out.lt)
       have EM := Lib.hid hen
       have ZM := Lib.hid hzm
       have M17 := Lib.hid hm17
       have ONM := Lib.hid honm
       clear hen hzm hm17 honm
       clear hb1)
    | (refine wpList_store_row rfl 32 (.tmp 11) (.tmp 52) rfl x1.heap.size mc rfl rfl 32 _ (Blk.new _ _ _) ZM.out (by rw [M17.out]; first | done | rfl) ONM.out ?_
       generalize hww : World.setRow _ _ _ = x2
       have hb5 : Below x1.heap.size x1 x2 := by rw [← hww]; exact below_setRow' (by go_grown) (Nat.le_refl _) _
       have HMx2 : Hid (Blk x2 x1.heap.size 32 mc) := by unfold Hid; rw [← hww]; exact cells_setRow (Blk.new _ _ _)
       have hzx2 := hb5.size
       have HBx2 := Lib.hid (HBx1.out.trans (hb5.mono HBx1.out.size))
       have HSx2 := Lib.hid (HSx1.out.below hb5 HSx1.out.lt)
       have EM2 : Hid (∀ W', Below x2.heap.size x2 W' → Calls Tryd.prog 15 #[.agg mc] W' fun e w'' => ∃ A n c, e = .returned (.tuple #[.slice A n c, .int .i64 0]) ∧ Got w'' A n c lb ∧ Below W'.heap.size W' w'') := fun W h => EM.out W (hb5.trans (h.mono hb5.size))
       clear EM
       clear hb5 hww)
    | (refine wpList_load_row rfl 32 (.tmp 11) rfl x1.heap.size rfl 32 _ _ _ HMx2.out Tryd.underlying32 rfl ZM.out ?_)
    | (go_at_call 15
       refine (EM2.out _ (Below.refl _ _)).mono ?_
       clear EM2
       rintro e x3 ⟨A9, n9, c9, rfl, hg9, hb9⟩
       have hzx3 := hb9.size
       have HBx3 := Lib.hid (HBx2.out.trans (hb9.mono HBx2.out.size))
       have HSx3 := Lib.hid (HSx2.out.below hb9 HSx2.out.lt)
       have cv9 := hg9.str
       have cvb : (convert 24 9 (.slice bA bn bc)).run Tryd.prog x3 = .ok (.string ⟨lb.toArray⟩) x3 := run_string_of_bytes Tryd.underlying24 Tryd.underlying5 (RB.out.below HBx3.out) 9 Tryd.underlying9
       clear hb9 hg9)
    | (refine wpList_load_row rfl 23 (.tmp 5) rfl (w.heap.size + 1) rfl 23 _ _ _ HSx3.out Tryd.underlying23 rfl ZS.out ?_)
    | (go_at_call 10
       refine (RC.out _).mono ?_
       clear RC
       rintro e x4 ⟨A8, c8, rfl, hg8, hb8⟩
       have hzx4 := hb8.size
       have HBx4 := Lib.hid (HBx3.out.trans (hb8.mono HBx3.out.size))
       have HSx4 := Lib.hid (HSx3.out.below hb8 HSx3.out.lt)
       have HG8 := Lib.hid hg8
       clear hb8 hg8)
    | (go_at_call 25
       refine (RR.out _ A8 c8 HBx4.out HG8.out).mono ?_
       clear RR
       rintro e x5 ⟨rfl, hb8⟩
       have hzx5 := hb8.size
       have HBx5 := Lib.hid (HBx4.out.trans (hb8.mono HBx4.out.size))
       have HSx5 := Lib.hid (HSx4.out.below hb8 HSx4.out.lt)
       clear hb8)
    | (refine wpList_store_row rfl 23 (.tmp 14) (.tmp 74) rfl x5.heap.size sc rfl rfl 23 _ (Blk.new _ _ _) ZS.out (by rw [S11.out]; first | done | rfl) ONS.out ?_
       generalize hww : World.setRow _ _ _ = x6
       have hb5 : Below x5.heap.size x5 x6 := by rw [← hww]; exact below_setRow' (by go_grown) (Nat.le_refl _) _
       have HTx6 : Hid (Blk x6 x5.heap.size 23 sc) := by unfold Hid; rw [← hww]; exact cells_setRow (Blk.new _ _ _)
       have hzx6 := hb5.size
       have HBx6 := Lib.hid (HBx5.out.trans (hb5.mono HBx5.out.size))
       have HSx6 := Lib.hid (HSx5.out.below hb5 HSx5.out.lt)
       clear hb5 hww)
    | (refine wpList_load_row_g (by rfl) 23 (.tmp 5) rfl (w.heap.size + 1) rfl 23 _ _ _ HSx6.out Tryd.underlying23 rfl ZS.out ?_)
    | (refine wpList_load_row_g (by rfl) 23 (.tmp 14) rfl x5.heap.size rfl 23 _ _ _ HTx6.out Tryd.underlying23 rfl ZS.out ?_)
    | (refine wpList_eql_agg_g (by rfl) 23 (.tmp 79) (.tmp 80) _ rfl sc sc rfl rfl (by as_aux_lemma => kernel_rfl) true (SE.out x6) ?_))
  go_ret
  exact ⟨rfl, HBx6.out⟩
set_option maxRecDepth 100000 in
set_option maxHeartbeats 4000000 in
theorem back_walk10 (nc mc sc : Array Value) (bA : Option Addr) (bn bc : Nat) (nb lb rb : List UInt8) (E E2 : Int) (w : World) (hE2 : E2 ≠ 0) (dn an : Nat) (PD PA : List Value)
    (ZN : Hid ((Tryd.prog.info? 32).map (·.size) = some nc.size)) (ZK : Hid (∀ X Y, (Tryd.prog.info? 32).map (·.size) = some (reNode nc X Y).size)) (ZM : Hid ((Tryd.prog.info? 32).map (·.size) = some mc.size)) (ZS : Hid ((Tryd.prog.info? 23).map (·.size) = some sc.size))
    (N17 : Hid (∀ X Y, (reNode nc X Y).size = 17)) (M17 : Hid (mc.size = 17)) (S11 : Hid (sc.size = 11)) (ONN : Hid (∀ D k A m, (reNode nc (.slice D dn k) (.slice A an m)).all (·.oneCell') = true)) (ONM : Hid (mc.all (·.oneCell') = true)) (ONS : Hid (sc.all (·.oneCell') = true))
    (SE : Hid (∀ W, (binOp .eql 23 (.agg sc) (.agg sc)).run Tryd.prog W = .ok (.bool true) W)) (RB : Hid (Reads w w.heap.size 1 bA bn (bcells lb)))
    (AL : Hid (∀ W, Below w.heap.size w W → Calls Tryd.prog 27 #[] W fun e w' => e = .returned (.bool true) ∧ Below W.heap.size W w'))
    (EN : Hid (∀ W, Below w.heap.size w W → Calls Tryd.prog 15 #[.agg nc] W fun e w' => ∃ A n c, e = .returned (.tuple #[.slice A n c, .int .i64 0]) ∧ Got w' A n c nb ∧ Below W.heap.size W w'))
    (RI : Hid (∀ W, Below w.heap.size w W → Calls Tryd.prog 18 #[.agg nc] W fun e w' => e = .returned (.int .i64 0) ∧ Below W.heap.size W w'))
    (DE : Hid (∀ W A n c, Below w.heap.size w W → Got W A n c nb → Calls Tryd.prog 23 #[.slice A n c] W fun e w' => ∃ D k B m, e = .returned (.tuple #[.agg (reNode nc (.slice D dn k) (.slice B an m)), .int .i64 0]) ∧ Reads w' w'.heap.size 1 D dn PD ∧ Reads w' w'.heap.size 3 B an PA ∧ Below W.heap.size W w'))
    (SR : Hid (∀ W D k B m, Below w.heap.size w W → Reads W W.heap.size 1 D dn PD → Reads W W.heap.size 3 B an PA → Calls Tryd.prog 21 #[.agg nc, .agg (reNode nc (.slice D dn k) (.slice B an m))] W fun e w' => e = .returned (.bool true) ∧ Below W.heap.size W w'))
    (SM : Hid (∀ W D k B m, Below w.heap.size w W → Reads W W.heap.size 1 D dn PD → Reads W W.heap.size 3 B an PA → Calls Tryd.prog 20 #[.agg nc, .agg (reNode nc (.slice D dn k) (.slice B an m))] W fun e w' => e = .returned (.bool true) ∧ Below W.heap.size W w'))
    (DB : Hid (∀ W, Below w.heap.size w W → Calls Tryd.prog 23 #[.slice bA bn bc] W fun e w' => e = .returned (.tuple #[.agg mc, .int .i64 E2]) ∧ Below W.heap.size W w'))
    (RC : Hid (∀ W, Calls Tryd.prog 10 #[.agg sc] W fun e w' => ∃ A c, e = .returned (.slice A 68 c) ∧ Got w' A 68 c rb ∧ Below W.heap.size W w'))
    (RR : Hid (∀ W A c, Below w.heap.size w W → Got W A 68 c rb → Calls Tryd.prog 25 #[.slice A 68 c] W fun e w' => e = .returned (.tuple #[.agg sc, .int .i64 0]) ∧ Below W.heap.size W w')) :
    Calls Tryd.prog 8 #[.agg nc, .slice bA bn bc, .agg sc] w fun e w' => e = .returned (.bool true) ∧ Below w.heap.size w w' := by
  obtain ⟨w1, hw1⟩ : ∃ w1, w.alloc (.cells nc 32) = w1 := ⟨_, rfl⟩
  obtain ⟨w2, hw2⟩ : ∃ w2, w1.alloc (.cells sc 23) = w2 := ⟨_, rfl⟩
  have hz1 : w1.heap.size = w.heap.size + 1 := by rw [← hw1]; simp
  have hz2 : w2.heap.size = w.heap.size + 2 := by rw [← hw2]; simp [hz1]
  have hb1 : Below w.heap.size w w1 := by rw [← hw1]; exact (Below.refl _ _).alloc (Nat.le_refl _) _
  have HBw2 : Hid (Below w.heap.size w w2) := by unfold Hid; rw [← hw2]; exact hb1.alloc (by omega) _
  have HNw2 : Hid (Blk w2 w.heap.size 32 nc) := by unfold Hid; rw [← hw2, ← hw1]; exact (Blk.new _ _ _).alloc _
  have HSw2 : Hid (Blk w2 (w.heap.size + 1) 23 sc) := by unfold Hid; rw [← hw2]; exact Blk.new' hz1.symm
  clear hb1
  go_enter Tryd.func8, Tryd.ntmps8
  go_wp2_with (first
    | (go_at_call 27
       refine (AL.out _ HBw2.out).mono ?_
       clear AL
       rintro e w3 ⟨rfl, hb3⟩
       have hz3 := hb3.size
       have HBw3 := Lib.hid (HBw2.out.trans (hb3.mono HBw2.out.size))
       have HNw3 := Lib.hid (HNw2.out.below hb3 HNw2.out.lt)
       have HSw3 := Lib.hid (HSw2.out.below hb3 HSw2.out.lt)
       clear hb3)
    | (refine wpList_load_row rfl 32 (.tmp 3) rfl w.heap.size rfl 32 _ _ _ HNw3.out Tryd.underlying32 rfl ZN.out ?_)
    | (go_at_call 15
       refine (EN.out _ HBw3.out).mono ?_
       clear EN
       rintro e w4 ⟨A7, n7, c7, rfl, hg7, hb3⟩
       have hz4 := hb3.size
       have HBw4 := Lib.hid (HBw3.out.trans (hb3.mono HBw3.out.size))
       have HNw4 := Lib.hid (HNw3.out.below hb3 HNw3.out.lt)
       have HSw4 := Lib.hid (HSw3.out.below hb3 HSw3.out.lt)
       have HG7 := Lib.hid hg7
       clear hg7
       clear hb3)
    | (refine wpList_load_row rfl 32 (.tmp 3) rfl w.heap.size rfl 32 _ _ _ HNw4.out Tryd.underlying32 rfl ZN.out ?_)
    | (go_at_call 18
       refine (RI.out _ HBw4.out).mono ?_
       clear RI
       rintro e w5 ⟨rfl, hb3⟩
       have hz5 := hb3.size
       have HBw5 := Lib.hid (HBw4.out.trans (hb3.mono HBw4.out.size))
       have HNw5 := Lib.hid (HNw4.out.below hb3 HNw4.out.lt)
       have HSw5 := Lib.hid (HSw4.out.below hb3 HSw4.out.lt)
       have HG75 := Lib.hid (HG7.out.later hb3)
       clear HG7
       clear hb3)
    | (go_at_call 23
       refine (DE.out _ _ _ _ HBw5.out HG75.out).mono ?_
       clear DE
       rintro e w6 ⟨D, k, B, m, rfl, hr1, hr2, hb3⟩
       have hz6 := hb3.size
       have HBw6 := Lib.hid (HBw5.out.trans (hb3.mono HBw5.out.size))
       have HNw6 := Lib.hid (HNw5.out.below hb3 HNw5.out.lt)
       have HSw6 := Lib.hid (HSw5.out.below hb3 HSw5.out.lt)
       have HR1 := Lib.hid hr1
       have HR2 := Lib.hid hr2
       clear hb3 hr1 hr2 HG75)
    | (refine wpList_store_row rfl 32 (.tmp 9) (.tmp 33) rfl w6.heap.size (reNode nc (.slice D dn k) (.slice B an m)) rfl rfl 32 _ (Blk.new _ _ _) (ZK.out _ _) (by rw [N17.out]; first | done | rfl) (ONN.out _ _ _ _) ?_
       generalize hww : World.setRow _ _ _ = w7
       have hb5 : Below w6.heap.size w6 w7 := by rw [← hww]; exact below_setRow' (by go_grown) (Nat.le_refl _) _
       have HKw7 : Hid (Blk w7 w6.heap.size 32 (reNode nc (.slice D dn k) (.slice B an m))) := by unfold Hid; rw [← hww]; exact cells_setRow (Blk.new _ _ _)
       have hzw7 := hb5.size
       have HBw7 := Lib.hid (HBw6.out.trans (hb5.mono HBw6.out.size))
       have HNw7 := Lib.hid (HNw6.out.below hb5 HNw6.out.lt)
       have HSw7 := Lib.hid (HSw6.out.below hb5 HSw6.out.lt)
       have HR17 := Lib.hid ((HR1.out.below hb5).more hb5.size)
       have HR27 := Lib.hid ((HR2.out.below hb5).more hb5.size)
       clear HR1 HR2
       clear hb5 hww)
    | (refine wpList_load_row_g (by rfl) 32 (.tmp 3) rfl w.heap.size rfl 32 _ _ _ HNw7.out Tryd.underlying32 rfl ZN.out ?_)
    | (refine wpList_load_row_g (by rfl) 32 (.tmp 9) rfl w6.heap.size rfl 32 _ _ _ HKw7.out Tryd.underlying32 rfl (ZK.out _ _) ?_)
    | (go_at_call 21
       refine (SR.out _ D k B m HBw7.out HR17.out HR27.out).mono ?_
       clear SR
       rintro e w8 ⟨rfl, hb3⟩
       have hz8 := hb3.size
       have HBw8 := Lib.hid (HBw7.out.trans (hb3.mono HBw7.out.size))
       have HNw8 := Lib.hid (HNw7.out.below hb3 HNw7.out.lt)
       have HSw8 := Lib.hid (HSw7.out.below hb3 HSw7.out.lt)
       have HKw8 := Lib.hid (HKw7.out.below hb3 HKw7.out.lt)
       have HR18 := Lib.hid ((HR17.out.below hb3).more hb3.size)
       have HR28 := Lib.hid ((HR27.out.below hb3).more hb3.size)
       clear hb3)
    | (refine wpList_load_row_g (by rfl) 32 (.tmp 3) rfl w.heap.size rfl 32 _ _ _ HNw8.out Tryd.underlying32 rfl ZN.out ?_)
    | (refine wpList_load_row_g (by rfl) 32 (.tmp 9) rfl w6.heap.size rfl 32 _ _ _ HKw8.out Tryd.underlying32 rfl (ZK.out _ _) ?_)
    | (go_at_call 20
       refine (SM.out _ D k B m HBw8.out HR18.out HR28.out).mono ?_
       clear SM
       rintro e w9 ⟨rfl, hb3⟩
       have hz9 := hb3.size
       have HBw9 := Lib.hid (HBw8.out.trans (hb3.mono HBw8.out.size))
       have HSw9 := Lib.hid (HSw8.out.below hb3 HSw8.out.lt)
       clear hb3))
  go_wp2_with (first
    | (go_at_call 23
       refine (DB.out _ HBw9.out).mono ?_
       clear DB
       rintro e x1 ⟨rfl, hb1⟩
       have hzx1 := hb1.size
       have HBx1 := Lib.hid (HBw9.out.trans (hb1.mono HBw9.out.size))
       have HSx1 := Lib.hid (HSw9.out.below hb1 HSw9.out.lt)
       clear hb1)
    | (refine wpList_store_row rfl 32 (.tmp 11) (.tmp 52) rfl x1.heap.size mc rfl rfl 32 _ (Blk.new _ _ _) ZM.out (by rw [M17.out]; first | done | rfl) ONM.out ?_
       generalize hww : World.setRow _ _ _ = x2
       have hb5 : Below x1.heap.size x1 x2 := by rw [← hww]; exact below_setRow' (by go_grown) (Nat.le_refl _) _
       have HMx2 : Hid (Blk x2 x1.heap.size 32 mc) := by unfold Hid; rw [← hww]; exact cells_setRow (Blk.new _ _ _)
       have hzx2 := hb5.size
       have HBx2 := Lib.hid (HBx1.out.trans (hb5.mono HBx1.out.size))
       have HSx2 := Lib.hid (HSx1.out.below hb5 HSx1.out.lt)
  
       clear hb5 hww)
    | (refine wpList_load_row rfl 23 (.tmp 5) rfl (w.heap.size + 1) rfl 23 _ _ _ HSx2.out Tryd.underlying23 rfl ZS.out ?_)
    | (go_at_call 10
       refine (RC.out _).mono ?_
       clear RC
       rintro e x4 ⟨A8, c8, rfl, hg8, hb8⟩
       have hzx4 := hb8.size
       have HBx4 := Lib.hid (HBx2.out.trans (hb8.mono HBx2.out.size))
       have HSx4 := Lib.hid (HSx2.out.below hb8 HSx2.out.lt)
       have HG8 := Lib.hid hg8
       clear hb8 hg8)
    | (go_at_call 25
       refine (RR.out _ A8 c8 HBx4.out HG8.out).mono ?_
       clear RR
       rintro e x5 ⟨rfl, hb8⟩
       have hzx5 := hb8.size
       have HBx5 := Lib.hid (HBx4.out.trans (hb8.mono HBx4.out.size))
       have HSx5 := Lib.hid (HSx4.out.below hb8 HSx4.out.lt)
       clear hb8)
    | (refine wpList_store_row rfl 23 (.tmp 14) (.tmp 74) rfl x5.heap.size sc rfl rfl 23 _ (Blk.new _ _ _) ZS.out (by rw [S11.out]; first | done | rfl) ONS.out ?_
       generalize hww : World.setRow _ _ _ = x6
       have hb5 : Below x5.heap.size x5 x6 := by rw [← hww]; exact below_setRow' (by go_grown) (Nat.le_refl _) _
       have HTx6 : Hid (Blk x6 x5.heap.size 23 sc) := by unfold Hid; rw [← hww]; exact cells_setRow (Blk.new _ _ _)
       have hzx6 := hb5.size
       have HBx6 := Lib.hid (HBx5.out.trans (hb5.mono HBx5.out.size))
       have HSx6 := Lib.hid (HSx5.out.below hb5 HSx5.out.lt)
       clear hb5 hww)
    | (refine wpList_load_row_g (by rfl) 23 (.tmp 5) rfl (w.heap.size + 1) rfl 23 _ _ _ HSx6.out Tryd.underlying23 rfl ZS.out ?_)
    | (refine wpList_load_row_g (by rfl) 23 (.tmp 14) rfl x5.heap.size rfl 23 _ _ _ HTx6.out Tryd.underlying23 rfl ZS.out ?_)
    | (refine wpList_eql_agg_g (by rfl) 23 (.tmp 79) (.tmp 80) _ rfl sc sc rfl rfl (by as_aux_lemma => kernel_rfl) true (SE.out x6) ?_))
  go_ret
  exact ⟨rfl, HBx6.out⟩
set_option maxRecDepth 100000 in
set_option maxHeartbeats 4000000 in
theorem back_walk11 (nc sc : Array Value) (bA : Option Addr) (bn bc : Nat) (nb lb rb : List UInt8) (E E2 : Int) (w : World) (dn an : Nat) (PD PA : List Value)
    (ZN : Hid ((Tryd.prog.info? 32).map (·.size) = some nc.size)) (ZK : Hid (∀ X Y, (Tryd.prog.info? 32).map (·.size) = some (reNode nc X Y).size)) (ZS : Hid ((Tryd.prog.info? 23).map (·.size) = some sc.size))
    (N17 : Hid (∀ X Y, (reNode nc X Y).size = 17)) (S11 : Hid (sc.size = 11)) (ONN : Hid (∀ D k A m, (reNode nc (.slice D dn k) (.slice A an m)).all (·.oneCell') = true)) (ONS : Hid (sc.all (·.oneCell') = true))
    (SE : Hid (∀ W, (binOp .eql 23 (.agg sc) (.agg sc)).run Tryd.prog W = .ok (.bool true) W)) (RB : Hid (Reads w w.heap.size 1 bA bn (bcells lb)))
    (AL : Hid (∀ W, Below w.heap.size w W → Calls Tryd.prog 27 #[] W fun e w' => e = .returned (.bool true) ∧ Below W.heap.size W w'))
    (EN : Hid (∀ W, Below w.heap.size w W → Calls Tryd.prog 15 #[.agg nc] W fun e w' => ∃ A n c, e = .returned (.tuple #[.slice A n c, .int .i64 0]) ∧ Got w' A n c nb ∧ Below W.heap.size W w'))
    (RI : Hid (∀ W, Below w.heap.size w W → Calls Tryd.prog 18 #[.agg nc] W fun e w' => e = .returned (.int .i64 0) ∧ Below W.heap.size W w'))
    (DE : Hid (∀ W A n c, Below w.heap.size w W → Got W A n c nb → Calls Tryd.prog 23 #[.slice A n c] W fun e w' => ∃ D k B m, e = .returned (.tuple #[.agg (reNode nc (.slice D dn k) (.slice B an m)), .int .i64 0]) ∧ Reads w' w'.heap.size 1 D dn PD ∧ Reads w' w'.heap.size 3 B an PA ∧ Below W.heap.size W w'))
    (SR : Hid (∀ W D k B m, Below w.heap.size w W → Reads W W.heap.size 1 D dn PD → Reads W W.heap.size 3 B an PA → Calls Tryd.prog 21 #[.agg nc, .agg (reNode nc (.slice D dn k) (.slice B an m))] W fun e w' => e = .returned (.bool true) ∧ Below W.heap.size W w'))
    (SM : Hid (∀ W D k B m, Below w.heap.size w W → Reads W W.heap.size 1 D dn PD → Reads W W.heap.size 3 B an PA → Calls Tryd.prog 20 #[.agg nc, .agg (reNode nc (.slice D dn k) (.slice B an m))] W fun e w' => e = .returned (.bool true) ∧ Below W.heap.size W w'))
    (DB : Hid (∀ W, Below w.heap.size w W → Calls Tryd.prog 23 #[.slice bA bn bc] W fun e w' => ∃ mc, (Tryd.prog.info? 32).map (·.size) = some mc.size ∧ mc.size = 17 ∧ mc.all (·.oneCell') = true ∧ e = .returned (.tuple #[.agg mc, .int .i64 0]) ∧ (∀ W', Below w'.heap.size w' W' → Calls Tryd.prog 15 #[.agg mc] W' fun e w'' => ∃ A n c, e = .returned (.tuple #[.slice A n c, .int .i64 0]) ∧ Got w'' A n c lb ∧ Below W'.heap.size W' w'') ∧ Below W.heap.size W w'))
    (RC : Hid (∀ W, Calls Tryd.prog 10 #[.agg sc] W fun e w' => ∃ A c, e = .returned (.slice A 68 c) ∧ Got w' A 68 c rb ∧ Below W.heap.size W w'))
    (RR : Hid (∀ W A c, Below w.heap.size w W → Got W A 68 c rb → Calls Tryd.prog 25 #[.slice A 68 c] W fun e w' => e = .returned (.tuple #[.agg sc, .int .i64 0]) ∧ Below W.heap.size W w')) :
    Calls Tryd.prog 8 #[.agg nc, .slice bA bn bc, .agg sc] w fun e w' => e = .returned (.bool true) ∧ Below w.heap.size w w' := by
  obtain ⟨w1, hw1⟩ : ∃ w1, w.alloc (.cells nc 32) = w1 := ⟨_, rfl⟩
  obtain ⟨w2, hw2⟩ : ∃ w2, w1.alloc (.cells sc 23) = w2 := ⟨_, rfl⟩
  have hz1 : w1.heap.size = w.heap.size + 1 := by rw [← hw1]; simp
  have hz2 : w2.heap.size = w.heap.size + 2 := by rw [← hw2]; simp [hz1]
  have hb1 : Below w.heap.size w w1 := by rw [← hw1]; exact (Below.refl _ _).alloc (Nat.le_refl _) _
  have HBw2 : Hid (Below w.heap.size w w2) := by unfold Hid; rw [← hw2]; exact hb1.alloc (by omega) _
  have HNw2 : Hid (Blk w2 w.heap.size 32 nc) := by unfold Hid; rw [← hw2, ← hw1]; exact (Blk.new _ _ _).alloc _
  have HSw2 : Hid (Blk w2 (w.heap.size + 1) 23 sc) := by unfold Hid; rw [← hw2]; exact Blk.new' hz1.symm
  clear hb1
  go_enter Tryd.func8, Tryd.ntmps8
  go_wp2_with (first
    | (go_at_call 27
       refine (AL.out _ HBw2.out).mono ?_
       clear AL
       rintro e w3 ⟨rfl, hb3⟩
       have hz3 := hb3.size
       have HBw3 := Lib.hid (HBw2.out.trans (hb3.mono HBw2.out.size))
       have HNw3 := Lib.hid (HNw2.out.below hb3 HNw2.out.lt)
       have HSw3 := Lib.hid (HSw2.out.below hb3 HSw2.out.lt)
       clear hb3)
    | (refine wpList_load_row rfl 32 (.tmp 3) rfl w.heap.size rfl 32 _ _ _ HNw3.out Tryd.underlying32 rfl ZN.out ?_)
    | (go_at_call 15
       refine (EN.out _ HBw3.out).mono ?_
       clear EN
       rintro e w4 ⟨A7, n7, c7, rfl, hg7, hb3⟩
       have hz4 := hb3.size
       have HBw4 := Lib.hid (HBw3.out.trans (hb3.mono HBw3.out.size))
       have HNw4 := Lib.hid (HNw3.out.below hb3 HNw3.out.lt)
       have HSw4 := Lib.hid (HSw3.out.below hb3 HSw3.out.lt)
       have HG7 := Lib.hid hg7
       clear hg7
       clear hb3)
    | (refine wpList_load_row rfl 32 (.tmp 3) rfl w.heap.size rfl 32 _ _ _ HNw4.out Tryd.underlying32 rfl ZN.out ?_)
    | (go_at_call 18
       refine (RI.out _ HBw4.out).mono ?_
       clear RI
       rintro e w5 ⟨rfl, hb3⟩
       have hz5 := hb3.size
       have HBw5 := Lib.hid (HBw4.out.trans (hb3.mono HBw4.out.size))
       have HNw5 := Lib.hid (HNw4.out.below hb3 HNw4.out.lt)
       have HSw5 := Lib.hid (HSw4.out.below hb3 HSw4.out.lt)
       have HG75 := Lib.hid (HG7.out.later hb3)
       clear HG7
       clear hb3)
    | (go_at_call 23
       refine (DE.out _ _ _ _ HBw5.out HG75.out).mono ?_
       clear DE
       rintro e w6 ⟨D, k, B, m, rfl, hr1, hr2, hb3⟩
       have hz6 := hb3.size
       have HBw6 := Lib.hid (HBw5.out.trans (hb3.mono HBw5.out.size))
       have HNw6 := Lib.hid (HNw5.out.below hb3 HNw5.out.lt)
       have HSw6 := Lib.hid (HSw5.out.below hb3 HSw5.out.lt)
       have HR1 := Lib.hid hr1
       have HR2 := Lib.hid hr2
       clear hb3 hr1 hr2 HG75)
    | (refine wpList_store_row rfl 32 (.tmp 9) (.tmp 33) rfl w6.heap.size (reNode nc (.slice D dn k) (.slice B an m)) rfl rfl 32 _ (Blk.new _ _ _) (ZK.out _ _) (by rw [N17.out]; first | done | rfl) (ONN.out _ _ _ _) ?_
       generalize hww : World.setRow _ _ _ = w7
       have hb5 : Below w6.heap.size w6 w7 := by rw [← hww]; exact below_setRow' (by go_grown) (Nat.le_refl _) _
       have HKw7 : Hid (Blk w7 w6.heap.size 32 (reNode nc (.slice D dn k) (.slice B an m))) := by unfold Hid; rw [← hww]; exact cells_setRow (Blk.new _ _ _)
       have hzw7 := hb5.size
       have HBw7 := Lib.hid (HBw6.out.trans (hb5.mono HBw6.out.size))
       have HNw7 := Lib.hid (HNw6.out.below hb5 HNw6.out.lt)
       have HSw7 := Lib.hid (HSw6.out.below hb5 HSw6.out.lt)
       have HR17 := Lib.hid ((HR1.out.below hb5).more hb5.size)
       have HR27 := Lib.hid ((HR2.out.below hb5).more hb5.size)
       clear HR1 HR2
       clear hb5 hww)
    | (refine wpList_load_row_g (by rfl) 32 (.tmp 3) rfl w.heap.size rfl 32 _ _ _ HNw7.out Tryd.underlying32 rfl ZN.out ?_)
    | (refine wpList_load_row_g (by rfl) 32 (.tmp 9) rfl w6.heap.size rfl 32 _ _ _ HKw7.out Tryd.underlying32 rfl (ZK.out _ _) ?_)
    | (go_at_call 21
       refine (SR.out _ D k B m HBw7.out HR17.out HR27.out).mono ?_
       clear SR
       rintro e w8 ⟨rfl, hb3⟩
       have hz8 := hb3.size
       have HBw8 := Lib.hid (HBw7.out.trans (hb3.mono HBw7.out.size))
       have HNw8 := Lib.hid (HNw7.out.below hb3 HNw7.out.lt)
       have HSw8 := Lib.hid (HSw7.out.below hb3 HSw7.out.lt)
       have HKw8 := Lib.hid (HKw7.out.below hb3 HKw7.out.lt)
       have HR18 := Lib.hid ((HR17.out.below hb3).more hb3.size)
       have HR28 := Lib.hid ((HR27.out.below hb3).more hb3.size)
       clear hb3)
    | (refine wpList_load_row_g (by rfl) 32 (.tmp 3) rfl w.heap.size rfl 32 _ _ _ HNw8.out Tryd.underlying32 rfl ZN.out ?_)
    | (refine wpList_load_row_g (by rfl) 32 (.tmp 9) rfl w6.heap.size rfl 32 _ _ _ HKw8.out Tryd.underlying32 rfl (ZK.out _ _) ?_)
    | (go_at_call 20
       refine (SM.out _ D k B m HBw8.out HR18.out HR28.out).mono ?_
       clear SM
       rintro e w9 ⟨rfl, hb3⟩
       have hz9 := hb3.size
       have HBw9 := Lib.hid (HBw8.out.trans (hb3.mono HBw8.out.size))
       have HSw9 := Lib.hid (HSw8.out.below hb3 HSw8.out.lt)
       clear hb3))
  go_wp2_with (first
    | (go_at_call 23
       refine (DB.out _ HBw9.out).mono ?_
       clear DB
       rintro e x1 ⟨mc, hzm, hm17, honm, rfl, hen, hb1⟩
       have hzx1 := hb1.size
       have HBx1 := Lib.hid (HBw9.out.trans (hb1.mono HBw9.out.size))
       have HSx1 := Lib.hid (HSw9.out.below hb1 HSw9.out.lt)
       have EM := Lib.hid hen
       have ZM := Lib.hid hzm
       have M17 := Lib.hid hm17
       have ONM := Lib.hid honm
       clear hen hzm hm17 honm
       clear hb1)
    | (refine wpList_store_row rfl 32 (.tmp 11) (.tmp 52) rfl x1.heap.size mc rfl rfl 32 _ (Blk.new _ _ _) ZM.out (by rw [M17.out]; first | done | rfl) ONM.out ?_
       generalize hww : World.setRow _ _ _ = x2
       have hb5 : Below x1.heap.size x1 x2 := by rw [← hww]; exact below_setRow' (by go_grown) (Nat.le_refl _) _
       have HMx2 : Hid (Blk x2 x1.heap.size 32 mc) := by unfold Hid; rw [← hww]; exact cells_setRow (Blk.new _ _ _)
       have hzx2 := hb5.size
       have HBx2 := Lib.hid (HBx1.out.trans (hb5.mono HBx1.out.size))
       have HSx2 := Lib.hid (HSx1.out.below hb5 HSx1.out.lt)
       have EM2 : Hid (∀ W', Below x2.heap.size x2 W' → Calls Tryd.prog 15 #[.agg mc] W' fun e w'' => ∃ A n c, e = .returned (.tuple #[.slice A n c, .int .i64 0]) ∧ Got w'' A n c lb ∧ Below W'.heap.size W' w'') := fun W h => EM.out W (hb5.trans (h.mono hb5.size))
       clear EM
       clear hb5 hww)
    | (refine wpList_load_row rfl 32 (.tmp 11) rfl x1.heap.size rfl 32 _ _ _ HMx2.out Tryd.underlying32 rfl ZM.out ?_)
    | (go_at_call 15
       refine (EM2.out _ (Below.refl _ _)).mono ?_
       clear EM2
       rintro e x3 ⟨A9, n9, c9, rfl, hg9, hb9⟩
       have hzx3 := hb9.size
       have HBx3 := Lib.hid (HBx2.out.trans (hb9.mono HBx2.out.size))
       have HSx3 := Lib.hid (HSx2.out.below hb9 HSx2.out.lt)
       have cv9 := hg9.str
       have cvb : (convert 24 9 (.slice bA bn bc)).run Tryd.prog x3 = .ok (.string ⟨lb.toArray⟩) x3 := run_string_of_bytes Tryd.underlying24 Tryd.underlying5 (RB.out.below HBx3.out) 9 Tryd.underlying9
       clear hb9 hg9)
    | (refine wpList_load_row rfl 23 (.tmp 5) rfl (w.heap.size + 1) rfl 23 _ _ _ HSx3.out Tryd.underlying23 rfl ZS.out ?_)
    | (go_at_call 10
       refine (RC.out _).mono ?_
       clear RC
       rintro e x4 ⟨A8, c8, rfl, hg8, hb8⟩
       have hzx4 := hb8.size
       have HBx4 := Lib.hid (HBx3.out.trans (hb8.mono HBx3.out.size))
       have HSx4 := Lib.hid (HSx3.out.below hb8 HSx3.out.lt)
       have HG8 := Lib.hid hg8
       clear hb8 hg8)
    | (go_at_call 25
       refine (RR.out _ A8 c8 HBx4.out HG8.out).mono ?_
       clear RR
       rintro e x5 ⟨rfl, hb8⟩
       have hzx5 := hb8.size
       have HBx5 := Lib.hid (HBx4.out.trans (hb8.mono HBx4.out.size))
       have HSx5 := Lib.hid (HSx4.out.below hb8 HSx4.out.lt)
       clear hb8)
    | (refine wpList_store_row rfl 23 (.tmp 14) (.tmp 74) rfl x5.heap.size sc rfl rfl 23 _ (Blk.new _ _ _) ZS.out (by rw [S11.out]; first | done | rfl) ONS.out ?_
       generalize hww : World.setRow _ _ _ = x6
       have hb5 : Below x5.heap.size x5 x6 := by rw [← hww]; exact below_setRow' (by go_grown) (Nat.le_refl _) _
       have HTx6 : Hid (Blk x6 x5.heap.size 23 sc) := by unfold Hid; rw [← hww]; exact cells_setRow (Blk.new _ _ _)
       have hzx6 := hb5.size
       have HBx6 := Lib.hid (HBx5.out.trans (hb5.mono HBx5.out.size))
       have HSx6 := Lib.hid (HSx5.out.below hb5 HSx5.out.lt)
       clear hb5 hww)
    | (refine wpList_load_row_g (by rfl) 23 (.tmp 5) rfl (w.heap.size + 1) rfl 23 _ _ _ HSx6.out Tryd.underlying23 rfl ZS.out ?_)
    | (refine wpList_load_row_g (by rfl) 23 (.tmp 14) rfl x5.heap.size rfl 23 _ _ _ HTx6.out Tryd.underlying23 rfl ZS.out ?_)
    | (refine wpList_eql_agg_g (by rfl) 23 (.tmp 79) (.tmp 80) _ rfl sc sc rfl rfl (by as_aux_lemma => kernel_rfl) true (SE.out x6) ?_))
  go_ret
  exact ⟨rfl, HBx6.out⟩
end Go.Proofs.YtaojjjcaofhmcaaDoor
