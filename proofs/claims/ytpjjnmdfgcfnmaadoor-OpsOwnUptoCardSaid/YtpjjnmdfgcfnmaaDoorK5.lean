/- Part 5 of a proof: lemmas and walks. -/
import Derived.Test.YtpjjnmdfgcfnmaaDoorK4
import Derived.Test.YtpjjnmdfgcfnmaaDoorK1
set_option linter.unusedVariables false
set_option linter.unusedSimpArgs false
set_option maxRecDepth 100000
set_option maxHeartbeats 20000000
namespace Go.Proofs.YtpjjnmdfgcfnmaaDoor
open Go.RowKit

abbrev OqoR1 (t : Int) : Array Value := #[.int .i32 t, .string ⟨#[]⟩, .slice none 0 0, .slice none 0 0, .int .i32 0, .int .i32 0, .bool false, .int .i64 0, .int .i64 0, .int .i64 0, .int .i64 0, .slice none 0 0, .slice none 0 0, .slice none 0 0, .slice none 0 0, .slice none 0 0, .int .i32 0, .slice none 0 0, .slice none 0 0]
abbrev OqoR2 (t : Int) (f : OpF) : Array Value := #[.int .i32 t, .string f.p, .slice none 0 0, .slice none 0 0, .int .i32 0, .int .i32 0, .bool false, .int .i64 0, .int .i64 0, .int .i64 0, .int .i64 0, .slice none 0 0, .slice none 0 0, .slice none 0 0, .slice none 0 0, .slice none 0 0, .int .i32 0, .slice none 0 0, .slice none 0 0]
abbrev OqoR3 (t : Int) (f : OpF) : Array Value := #[.int .i32 t, .string f.p, .slice none 0 0, .slice none 0 0, .int .i32 0, .int .i32 0, .bool f.wa, .int .i64 0, .int .i64 0, .int .i64 0, .int .i64 0, .slice none 0 0, .slice none 0 0, .slice none 0 0, .slice none 0 0, .slice none 0 0, .int .i32 0, .slice none 0 0, .slice none 0 0]

def nilS : Sl := ⟨none, 0, 0⟩
def tP : List Int := [1, 15, 19, 21, 2, 13, 5, 7, 120, 121, 6, 9, 103, 104, 20, 3, 4, 8, 12, 106, 18]
def tD : List Int := [1, 15, 19, 21, 5]
def tA : List Int := [1, 15, 19, 21, 7]
def tF : List Int := [1, 15, 19, 21, 106, 18]
def tV : List Int := [2, 13, 5, 7]
def tW : List Int := [3, 4, 8, 12]
def tC : List Int := [120]
def tL : List Int := [21]
def tZ : List Int := [101]
def tT : List Int := [(-10)]
def tS : List Int := [14, 22]
def keptF (f : OpF) : OpF := ⟨f.t, if f.t ∈ tP then f.p else ⟨#[]⟩, if f.t ∈ tD then f.l else [], if f.t ∈ tA then f.L else [], if f.t ∈ tF then f.fl else 0, if f.t ∈ tV then f.ve else 0, if f.t ∈ tW then f.wa else false, if f.t ∈ tC then f.ct else 0, if f.t ∈ tC then f.by_ else 0, if f.t ∈ tL then f.tl else 0, if f.t ∈ tZ then f.zx else 0,
 if f.t ∈ tZ then f.K0 else [], if f.t ∈ tZ then f.K1 else [], if f.t ∈ tZ then f.K2 else [], if f.t ∈ tZ then f.K3 else [], if f.t ∈ tZ then f.K4 else [], if f.t ∈ tT then f.to else 0, if f.t ∈ tT then f.I else []⟩
def kS (l : List Int) (t : Int) (s : Sl) : Sl := if t ∈ l then s else nilS
def keptRow (f : OpF) (d a k0 k1 k2 k3 k4 i s : Sl) : List Value := (keptF f).row (kS tD f.t d) (kS tA f.t a) (kS tZ f.t k0) (kS tZ f.t k1) (kS tZ f.t k2) (kS tZ f.t k3) (kS tZ f.t k4) (kS tT f.t i) (kS tS f.t s)

def SwNo (t : Int) : List Int → Prop
 | [] => True
 | c :: r => (t == c) = false ∧ SwNo t r
theorem sw_all {l cs : List Int} {t : Int} (h : t ∈ l) (hc : (cs.all fun c => !l.contains c) = true) : SwNo t cs := by
 induction cs with
 | nil => trivial
 | cons c r ih =>
   rw [List.all_cons, Bool.and_eq_true] at hc
   refine ⟨?_, ih hc.2⟩
   rw [beq_eq_false_iff_ne]
   rintro rfl
   rw [List.contains_iff_mem.2 h] at hc
   exact absurd hc.1 (by decide)


theorem kept_g6 (t : Int) (htt : t ∈ ([121, 6, 9, 103, 104, 20] : List Int)) (f : OpF) (d a k0 k1 k2 k3 k4 i s : Sl) (w : World) (ht : f.t = t) : Calls Tryd.prog 78 #[.agg (f.row d a k0 k1 k2 k3 k4 i s).toArray] w fun e w' => e = .returned (.agg (keptRow f d a k0 k1 k2 k3 k4 i s).toArray) ∧ Below w.heap.size w w' := by
 have HE : Hid ((keptRow f d a k0 k1 k2 k3 k4 i s).toArray = (OqoR2 t f)) := by
  unfold Hid keptRow keptF kS
  rw [ht]
  simp only [zH, zI, or_false] at htt
  rcases htt with rfl | rfl | rfl | rfl | rfl | rfl <;> simp [tP, tD, tA, tF, tV, tW, tC, tL, tZ, tT, tS, OpF.row, Sl.v, nilS]
 rw [HE.out]
 obtain ⟨cs, hcs⟩ : ∃ cs : Array Value, cs = (f.row d a k0 k1 k2 k3 k4 i s).toArray := ⟨_, rfl⟩
 rw [← hcs]
 have hc0 : cs[0]? = some (.int .i32 t) := by rw [hcs, ← ht]; rfl
 have HC0 := Hi hc0
 have HCS := Hi hcs
 obtain ⟨w1, hw1⟩ := xa w cs 29
 have hz1 : w1.heap.size = w.heap.size + 1 := by rw [← hw1]; simp
 have HN1 := Hi (zW hw1)
 have HB1 := Hi (zV hw1)
 clear hc0 hcs ht HE
 obtain ⟨n0, n1, n2, n3, n4, n5, n6, n7, n8, n9, n10, n11, n12, n13, n14, n15, n16, n17, n18, n19, n20, n21, _⟩ := sw_all (cs := [14, 22, 101, (-10), (-11), 11, 107, 1, 15, 19, 21, 2, 13, 5, 7, 120, 3, 4, 8, 12, 106, 18]) htt rfl
 clear htt
 go_enter Tryd.func78, Tryd.ntmps78
 go_wp2_with (first
  | (refine wpList_new rfl 29 rfl zer_op ?_
     intro old hold
     obtain ⟨w2, hw2⟩ := xa w1 old 29
     rw [hw2]
     have hz2 : w2.heap.size = w.heap.size + 2 := (by rw [← hw2]; simp [hz1])
     have HN2 : Hid (Blk w2 w.heap.size 29 cs) := (by unfold Hid; rw [← hw2]; exact HN1.out.alloc _)
     have HZ2 : Hid (Blk w2 (w.heap.size + 1) 29 old) := (by unfold Hid; rw [← hw2]; exact Blk.new' hz1.symm)
     have HB2 : Hid (Below w.heap.size w w2) := (by unfold Hid; rw [← hw2]; exact HB1.out.alloc (by omega) _)
     have HOLD := Hi hold
     have c0 := yC HN2.out 0 HC0.out
     clear hw2 hold)
  | (refine wpList_newrow rfl rfl 29 rfl 3 rfl (.tmp 6) rfl rfl (OqoR1 t) (fun _ => rfl) (show 3 < 116 by decide) zer_op isz_29 (by simp [Value.oneCell']) ?_
     obtain ⟨w3, hw3⟩ := xa w2 (OqoR1 t) 29
     rw [hw3]
     have hz3 : w3.heap.size = w.heap.size + 3 := (by rw [← hw3]; simp [hz2])
     have HN3 : Hid (Blk w3 w.heap.size 29 cs) := (by unfold Hid; rw [← hw3]; exact HN2.out.alloc _)
     have HZ3 : Hid (Blk w3 (w.heap.size + 1) 29 old) := (by unfold Hid; rw [← hw3]; exact HZ2.out.alloc _)
     have HP3 : Hid (Blk w3 (w.heap.size + 2) 29 (OqoR1 t)) := (by unfold Hid; rw [← hw3]; exact Blk.new' hz2.symm)
     have HB3 : Hid (Below w.heap.size w w3) := (by unfold Hid; rw [← hw3]; exact HB2.out.alloc (by omega) _)
     have d0 := yC HN3.out 0 HC0.out
     have d1 := yC HN3.out 1 (by rw [HCS.out]; rfl : cs[1]? = some (.string f.p))
     clear hw3 c0 HN2 HZ2 HB2)
  | (with_reducible refine wpSt 41 ?_
     refine wpList_store_mid rfl 9 (.tmp 41) (.tmp 40) rfl (w.heap.size + 2) 1 (.string f.p) rfl rfl HP3.out (news := [.string f.p]) rfl isz_9 (by simp) (by simp [Value.oneCell']) ?_
     intro w4 cn hBn hxn hgn hzn
     have hz4 : w4.heap.size = w.heap.size + 3 := (by rw [hzn, hz3])
     have HN4 : Hid (Blk w4 w.heap.size 29 cs) := HN3.out.grown hgn (by simp)
     have HZ4 : Hid (Blk w4 (w.heap.size + 1) 29 old) := HZ3.out.grown hgn (by simp)
     have HP4 : Hid (Blk w4 (w.heap.size + 2) 29 (OqoR2 t f)) := (by
      have e : cn = (OqoR2 t f) := Array.ext' hxn
      unfold Hid; rw [← e]; exact hBn)
     have HB4 : Hid (Below w.heap.size w w4) := HB3.out.grown hgn (by omega) (fun k hk => by injection hk with hk; omega)
     have e0 := yC HN4.out 0 HC0.out
     clear d0 d1
     clear hBn hxn hgn hzn)
  | (with_reducible refine wpAq 115 ?_
     refine wpList_load_row rfl 29 (.tmp 3) rfl (w.heap.size + 2) rfl 29 _ _ _ HP4.out zU29 rfl isz_29 ?_)
  | (with_reducible refine wpSt 2 ?_
     refine wpList_store_row rfl 29 (.tmp 2) (.tmp 115) rfl (w.heap.size + 1) (OqoR2 t f) rfl rfl 29 _ HZ4.out isz_29 (by rw [HOLD.out]; rfl) (by simp [Value.oneCell']) ?_
     generalize hww : World.setRow _ _ _ = wz
     have HBZ : Hid (Blk wz (w.heap.size + 1) 29 (OqoR2 t f)) := (by unfold Hid; rw [← hww]; exact cells_setRow HZ4.out)
     have HBB : Hid (Below w.heap.size w wz) := (by unfold Hid; rw [← hww]; exact below_setRow' HB4.out (by omega) _)
     clear hww))
 refine bodyPost_ret (results_cell_row rfl _ _ (w.heap.size + 1) 29 _ _ _ rfl HBZ.out zU29 rfl isz_29) rfl ?_
 exact ⟨rfl, HBB.out⟩
theorem kept_g7 (t : Int) (htt : t ∈ ([3, 4, 8, 12] : List Int)) (f : OpF) (d a k0 k1 k2 k3 k4 i s : Sl) (w : World) (ht : f.t = t) : Calls Tryd.prog 78 #[.agg (f.row d a k0 k1 k2 k3 k4 i s).toArray] w fun e w' => e = .returned (.agg (keptRow f d a k0 k1 k2 k3 k4 i s).toArray) ∧ Below w.heap.size w w' := by
 have HE : Hid ((keptRow f d a k0 k1 k2 k3 k4 i s).toArray = (OqoR3 t f)) := by
  unfold Hid keptRow keptF kS
  rw [ht]
  simp only [zH, zI, or_false] at htt
  rcases htt with rfl | rfl | rfl | rfl <;> simp [tP, tD, tA, tF, tV, tW, tC, tL, tZ, tT, tS, OpF.row, Sl.v, nilS]
 rw [HE.out]
 obtain ⟨cs, hcs⟩ : ∃ cs : Array Value, cs = (f.row d a k0 k1 k2 k3 k4 i s).toArray := ⟨_, rfl⟩
 rw [← hcs]
 have hc0 : cs[0]? = some (.int .i32 t) := by rw [hcs, ← ht]; rfl
 have HC0 := Hi hc0
 have HCS := Hi hcs
 obtain ⟨w1, hw1⟩ := xa w cs 29
 have hz1 : w1.heap.size = w.heap.size + 1 := by rw [← hw1]; simp
 have HN1 := Hi (zW hw1)
 have HB1 := Hi (zV hw1)
 clear hc0 hcs ht HE
 obtain ⟨n0, n1, n2, n3, n4, n5, n6, n7, n8, n9, n10, n11, n12, n13, n14, n15, n16, n17, _⟩ := sw_all (cs := [14, 22, 101, (-10), (-11), 11, 107, 1, 15, 19, 21, 2, 13, 5, 7, 120, 106, 18]) htt rfl
 have S : ((t == 3) = true) ∨ ((t == 3) = false ∧ (t == 4) = true) ∨ ((t == 3) = false ∧ (t == 4) = false ∧ (t == 8) = true) ∨ ((t == 3) = false ∧ (t == 4) = false ∧ (t == 8) = false ∧ (t == 12) = true) := by
  simp only [zH, zI, or_false] at htt
  rcases htt with rfl | rfl | rfl | rfl <;> decide
 clear htt
 rcases S with s0 | ⟨s0, s1⟩ | ⟨s0, s1, s2⟩ | ⟨s0, s1, s2, s3⟩
 all_goals
  go_enter Tryd.func78, Tryd.ntmps78
  go_wp2_with (first
   | (refine wpList_new rfl 29 rfl zer_op ?_
      intro old hold
      obtain ⟨w2, hw2⟩ := xa w1 old 29
      rw [hw2]
      have hz2 : w2.heap.size = w.heap.size + 2 := (by rw [← hw2]; simp [hz1])
      have HN2 : Hid (Blk w2 w.heap.size 29 cs) := (by unfold Hid; rw [← hw2]; exact HN1.out.alloc _)
      have HZ2 : Hid (Blk w2 (w.heap.size + 1) 29 old) := (by unfold Hid; rw [← hw2]; exact Blk.new' hz1.symm)
      have HB2 : Hid (Below w.heap.size w w2) := (by unfold Hid; rw [← hw2]; exact HB1.out.alloc (by omega) _)
      have HOLD := Hi hold
      have c0 := yC HN2.out 0 HC0.out
      clear hw2 hold)
   | (refine wpList_newrow rfl rfl 29 rfl 3 rfl (.tmp 6) rfl rfl (OqoR1 t) (fun _ => rfl) (show 3 < 116 by decide) zer_op isz_29 (by simp [Value.oneCell']) ?_
      obtain ⟨w3, hw3⟩ := xa w2 (OqoR1 t) 29
      rw [hw3]
      have hz3 : w3.heap.size = w.heap.size + 3 := (by rw [← hw3]; simp [hz2])
      have HN3 : Hid (Blk w3 w.heap.size 29 cs) := (by unfold Hid; rw [← hw3]; exact HN2.out.alloc _)
      have HZ3 : Hid (Blk w3 (w.heap.size + 1) 29 old) := (by unfold Hid; rw [← hw3]; exact HZ2.out.alloc _)
      have HP3 : Hid (Blk w3 (w.heap.size + 2) 29 (OqoR1 t)) := (by unfold Hid; rw [← hw3]; exact Blk.new' hz2.symm)
      have HB3 : Hid (Below w.heap.size w w3) := (by unfold Hid; rw [← hw3]; exact HB2.out.alloc (by omega) _)
      have d0 := yC HN3.out 0 HC0.out
      have d1 := yC HN3.out 1 (by rw [HCS.out]; rfl : cs[1]? = some (.string f.p))
      clear hw3 c0 HN2 HZ2 HB2)
   | (with_reducible refine wpSt 41 ?_
      refine wpList_store_mid rfl 9 (.tmp 41) (.tmp 40) rfl (w.heap.size + 2) 1 (.string f.p) rfl rfl HP3.out (news := [.string f.p]) rfl isz_9 (by simp) (by simp [Value.oneCell']) ?_
      intro w4 cn hBn hxn hgn hzn
      have hz4 : w4.heap.size = w.heap.size + 3 := (by rw [hzn, hz3])
      have HN4 : Hid (Blk w4 w.heap.size 29 cs) := HN3.out.grown hgn (by simp)
      have HZ4 : Hid (Blk w4 (w.heap.size + 1) 29 old) := HZ3.out.grown hgn (by simp)
      have HP4 : Hid (Blk w4 (w.heap.size + 2) 29 (OqoR2 t f)) := (by
       have e : cn = (OqoR2 t f) := Array.ext' hxn
       unfold Hid; rw [← e]; exact hBn)
      have HB4 : Hid (Below w.heap.size w w4) := HB3.out.grown hgn (by omega) (fun k hk => by injection hk with hk; omega)
      have e0 := yC HN4.out 0 HC0.out
      have e6 := yC HN4.out 6 (by rw [HCS.out]; rfl : cs[6]? = some (.bool f.wa))
      clear d0 d1
      clear hBn hxn hgn hzn)
   | (with_reducible refine wpSt 108 ?_
      refine wpList_store_mid rfl 4 (.tmp 108) (.tmp 107) rfl (w.heap.size + 2) 6 (.bool f.wa) rfl rfl HP4.out (news := [.bool f.wa]) rfl isz_4 (by simp) (by simp [Value.oneCell']) ?_
      intro w5 cn hBn hxn hgn hzn
      have hz5 : w5.heap.size = w.heap.size + 3 := (by rw [hzn, hz4])
      have HN5 : Hid (Blk w5 w.heap.size 29 cs) := HN4.out.grown hgn (by simp)
      have HZ5 : Hid (Blk w5 (w.heap.size + 1) 29 old) := HZ4.out.grown hgn (by simp)
      have HP5 : Hid (Blk w5 (w.heap.size + 2) 29 (OqoR3 t f)) := (by
       have e : cn = (OqoR3 t f) := Array.ext' hxn
       unfold Hid; rw [← e]; exact hBn)
      have HB5 : Hid (Below w.heap.size w w5) := HB4.out.grown hgn (by omega) (fun k hk => by injection hk with hk; omega)
      clear hBn hxn hgn hzn)
   | (with_reducible refine wpAq 115 ?_
      refine wpList_load_row rfl 29 (.tmp 3) rfl (w.heap.size + 2) rfl 29 _ _ _ HP5.out zU29 rfl isz_29 ?_)
   | (with_reducible refine wpSt 2 ?_
      refine wpList_store_row rfl 29 (.tmp 2) (.tmp 115) rfl (w.heap.size + 1) (OqoR3 t f) rfl rfl 29 _ HZ5.out isz_29 (by rw [HOLD.out]; rfl) (by simp [Value.oneCell']) ?_
      generalize hww : World.setRow _ _ _ = wz
      have HBZ : Hid (Blk wz (w.heap.size + 1) 29 (OqoR3 t f)) := (by unfold Hid; rw [← hww]; exact cells_setRow HZ5.out)
      have HBB : Hid (Below w.heap.size w wz) := (by unfold Hid; rw [← hww]; exact below_setRow' HB5.out (by omega) _)
      clear hww))
  refine bodyPost_ret (results_cell_row rfl _ _ (w.heap.size + 1) 29 _ _ _ rfl HBZ.out zU29 rfl isz_29) rfl ?_
  exact ⟨rfl, HBB.out⟩

abbrev Oqk1R1 (t : Int) (f : OpF) (d : Sl) (a : Sl) : Array Value := #[.int .i32 t, .string f.p, .slice d.A d.n d.c, .slice a.A a.n a.c, .int .i32 f.fl, .int .i32 0, .bool false, .int .i64 0, .int .i64 0, .int .i64 f.tl, .int .i64 0, .slice none 0 0, .slice none 0 0, .slice none 0 0, .slice none 0 0, .slice none 0 0, .int .i32 0, .slice none 0 0, .slice none 0 0]
abbrev Oqk1R2 (t : Int) (f : OpF) (d : Sl) (a : Sl) : Array Value := #[.int .i32 t, .string f.p, .slice d.A d.n d.c, .slice a.A a.n a.c, .int .i32 f.fl, .int .i32 0, .bool false, .int .i64 0, .int .i64 0, .int .i64 0, .int .i64 0, .slice none 0 0, .slice none 0 0, .slice none 0 0, .slice none 0 0, .slice none 0 0, .int .i32 0, .slice none 0 0, .slice none 0 0]
abbrev Oqk1R3 (t : Int) (f : OpF) (a : Sl) : Array Value := #[.int .i32 t, .string f.p, .slice none 0 0, .slice a.A a.n a.c, .int .i32 0, .int .i32 f.ve, .bool false, .int .i64 0, .int .i64 0, .int .i64 0, .int .i64 0, .slice none 0 0, .slice none 0 0, .slice none 0 0, .slice none 0 0, .slice none 0 0, .int .i32 0, .slice none 0 0, .slice none 0 0]
abbrev Oqk1R4 (t : Int) : Array Value := #[.int .i32 t, .string ⟨#[]⟩, .slice none 0 0, .slice none 0 0, .int .i32 0, .int .i32 0, .bool false, .int .i64 0, .int .i64 0, .int .i64 0, .int .i64 0, .slice none 0 0, .slice none 0 0, .slice none 0 0, .slice none 0 0, .slice none 0 0, .int .i32 0, .slice none 0 0, .slice none 0 0]
abbrev Oqk1R5 (t : Int) (f : OpF) : Array Value := #[.int .i32 t, .string f.p, .slice none 0 0, .slice none 0 0, .int .i32 0, .int .i32 0, .bool false, .int .i64 0, .int .i64 0, .int .i64 0, .int .i64 0, .slice none 0 0, .slice none 0 0, .slice none 0 0, .slice none 0 0, .slice none 0 0, .int .i32 0, .slice none 0 0, .slice none 0 0]

theorem kept_g0 (t : Int) (htt : t ∈ ([1, 15, 19] : List Int)) (f : OpF) (d a k0 k1 k2 k3 k4 i s : Sl) (w : World) (ht : f.t = t) : Calls Tryd.prog 78 #[.agg (f.row d a k0 k1 k2 k3 k4 i s).toArray] w fun e w' => e = .returned (.agg (keptRow f d a k0 k1 k2 k3 k4 i s).toArray) ∧ Below w.heap.size w w' := by
 have HE : Hid ((keptRow f d a k0 k1 k2 k3 k4 i s).toArray = (Oqk1R2 t f d a)) := by
  unfold Hid keptRow keptF kS
  rw [ht]
  simp only [zH, zI, or_false] at htt
  rcases htt with rfl | rfl | rfl <;> simp [tP, tD, tA, tF, tV, tW, tC, tL, tZ, tT, tS, OpF.row, Sl.v, nilS]
 rw [HE.out]
 obtain ⟨cs, hcs⟩ : ∃ cs : Array Value, cs = (f.row d a k0 k1 k2 k3 k4 i s).toArray := ⟨_, rfl⟩
 rw [← hcs]
 have hc0 : cs[0]? = some (.int .i32 t) := by rw [hcs, ← ht]; rfl
 have HC0 := Hi hc0
 have HCS := Hi hcs
 obtain ⟨w1, hw1⟩ := xa w cs 29
 have hz1 : w1.heap.size = w.heap.size + 1 := by rw [← hw1]; simp
 have HN1 := Hi (zW hw1)
 have HB1 := Hi (zV hw1)
 clear hc0 hcs ht HE
 obtain ⟨n0, n1, n2, n3, n4, n5, n6, n7, n8, n9, n10, n11, n12, n13, n14, n15, n16, n17, n18, _⟩ := sw_all (cs := [14, 22, 101, (-10), (-11), 11, 107, 21, 2, 13, 5, 7, 120, 3, 4, 8, 12, 106, 18]) htt rfl
 have S : ((t == 1) = true) ∨ ((t == 1) = false ∧ (t == 15) = true) ∨ ((t == 1) = false ∧ (t == 15) = false ∧ (t == 19) = true) := by
  simp only [zH, zI, or_false] at htt
  rcases htt with rfl | rfl | rfl <;> decide
 clear htt
 rcases S with s0 | ⟨s0, s1⟩ | ⟨s0, s1, s2⟩
 all_goals
  go_enter Tryd.func78, Tryd.ntmps78
  go_wp2_with (first
   | (refine wpList_new rfl 29 rfl zer_op ?_
      intro old hold
      obtain ⟨w2, hw2⟩ := xa w1 old 29
      rw [hw2]
      have hz2 : w2.heap.size = w.heap.size + 2 := (by rw [← hw2]; simp [hz1])
      have HN2 : Hid (Blk w2 w.heap.size 29 cs) := (by unfold Hid; rw [← hw2]; exact HN1.out.alloc _)
      have HZ2 : Hid (Blk w2 (w.heap.size + 1) 29 old) := (by unfold Hid; rw [← hw2]; exact Blk.new' hz1.symm)
      have HB2 : Hid (Below w.heap.size w w2) := (by unfold Hid; rw [← hw2]; exact HB1.out.alloc (by omega) _)
      have HOLD := Hi hold
      have c0 := yC HN2.out 0 HC0.out
      clear hw2 hold)
   | (refine wpList_newrow rfl rfl 29 rfl 3 rfl (.tmp 6) rfl rfl (Oqk1R4 t) (fun _ => rfl) (show 3 < 116 by decide) zer_op isz_29 (by simp [Value.oneCell']) ?_
      obtain ⟨w3, hw3⟩ := xa w2 (Oqk1R4 t) 29
      rw [hw3]
      have hz3 : w3.heap.size = w.heap.size + 3 := (by rw [← hw3]; simp [hz2])
      have HN3 : Hid (Blk w3 w.heap.size 29 cs) := (by unfold Hid; rw [← hw3]; exact HN2.out.alloc _)
      have HZ3 : Hid (Blk w3 (w.heap.size + 1) 29 old) := (by unfold Hid; rw [← hw3]; exact HZ2.out.alloc _)
      have HP3 : Hid (Blk w3 (w.heap.size + 2) 29 (Oqk1R4 t)) := (by unfold Hid; rw [← hw3]; exact Blk.new' hz2.symm)
      have HB3 : Hid (Below w.heap.size w w3) := (by unfold Hid; rw [← hw3]; exact HB2.out.alloc (by omega) _)
      have d0 := yC HN3.out 0 HC0.out
      have d1 := yC HN3.out 1 (by rw [HCS.out]; rfl : cs[1]? = some (.string f.p))
      clear hw3 c0 HN2 HZ2 HB2)
   | (with_reducible refine wpSt 41 ?_
      refine wpList_store_mid rfl 9 (.tmp 41) (.tmp 40) rfl (w.heap.size + 2) 1 (.string f.p) rfl rfl HP3.out (news := [.string f.p]) rfl isz_9 (by simp) (by simp [Value.oneCell']) ?_
      intro w4 cn hBn hxn hgn hzn
      have hz4 : w4.heap.size = w.heap.size + 3 := (by rw [hzn, hz3])
      have HN4 : Hid (Blk w4 w.heap.size 29 cs) := HN3.out.grown hgn (by simp)
      have HZ4 : Hid (Blk w4 (w.heap.size + 1) 29 old) := HZ3.out.grown hgn (by simp)
      have HP4 : Hid (Blk w4 (w.heap.size + 2) 29 (Oqk1R5 t f)) := (by
       have e : cn = (Oqk1R5 t f) := Array.ext' hxn
       unfold Hid; rw [← e]; exact hBn)
      have HB4 : Hid (Below w.heap.size w w4) := HB3.out.grown hgn (by omega) (fun k hk => by injection hk with hk; omega)
      have e0 := yC HN4.out 0 HC0.out
      clear d0 d1
      clear hBn hxn hgn hzn))
  have HROW : Hid (Blk w4 w.heap.size 29 (f.row d a k0 k1 k2 k3 k4 i s).toArray) := by unfold Hid; rw [← HCS.out]; exact HN4.out
  have HPS : Hid (((Oqk1R5 t f) : Array Value).size = 19) := rfl
  clear e0
  obtain ⟨x48, H48⟩ := xv (.pointer (some ⟨w.heap.size, 2, none⟩))
  obtain ⟨x49, H49⟩ := xv (.slice d.A d.n d.c)
  obtain ⟨x50, H50⟩ := xv (.pointer (some ⟨w.heap.size, 3, none⟩))
  obtain ⟨x51, H51⟩ := xv (.slice a.A a.n a.c)
  obtain ⟨x52, H52⟩ := xv (.pointer (some ⟨w.heap.size, 4, none⟩))
  obtain ⟨x53, H53⟩ := xv (.int .i32 f.fl)
  obtain ⟨x54, H54⟩ := xv (.pointer (some ⟨(w.heap.size + 2), 2, none⟩))
  obtain ⟨x55, H55⟩ := xv (.pointer (some ⟨(w.heap.size + 2), 3, none⟩))
  obtain ⟨x56, H56⟩ := xv (.pointer (some ⟨(w.heap.size + 2), 4, none⟩))
  refine wp_region_copy (w0 := w4) (w.heap.size + 2) 29 [(2, .slice d.A d.n d.c), (3, .slice a.A a.n a.c), (4, .int .i32 f.fl)] (.inl x48 ::
   .inl x49 ::
   .inl x50 ::
   .inl x51 ::
   .inl x52 ::
   .inl x53 ::
   .inl x54 ::
   .inr (fun _ W => (∃ cur, Blk W (w.heap.size + 2) 29 cur) ∧ ∀ z9 u9, ([.slice d.A d.n d.c] : List Value)[z9]? = some u9 → W.cell? ⟨(w.heap.size + 2), 2 + z9, none⟩ = some u9) ::
   .inl x55 ::
   .inr (fun _ W => (∃ cur, Blk W (w.heap.size + 2) 29 cur) ∧ ∀ z9 u9, ([.slice a.A a.n a.c] : List Value)[z9]? = some u9 → W.cell? ⟨(w.heap.size + 2), 3 + z9, none⟩ = some u9) ::
   .inl x56 ::
   .inr (fun _ W => (∃ cur, Blk W (w.heap.size + 2) 29 cur) ∧ ∀ z9 u9, ([.int .i32 f.fl] : List Value)[z9]? = some u9 → W.cell? ⟨(w.heap.size + 2), 4 + z9, none⟩ = some u9) :: []) rfl (by kernel_rfl) (by kernel_rfl) (by kernel_rfl) (by kernel_rfl) ?_ ⟨fun ac W hC o q K hK => op_u (u := .pointer (some ⟨w.heap.size, 2, none⟩)) rfl (r_field 29 _ 2 rfl (yA (hO o 1)) zU29 rfl (n := 0) isz_22 rfl) (hK _ _ H48.out.symm (Cp.refl _)),
   fun ac W hC o q K hK => op_u (u := .slice d.A d.n d.c) rfl (r_load 22 _ rfl (yA (dL q 0 H48)) (yC (HROW.out.grown hC.grown (by simp)) 2 rfl) zU22 rfl) (hK _ _ H49.out.symm (Cp.refl _)),
   fun ac W hC o q K hK => op_u (u := .pointer (some ⟨w.heap.size, 3, none⟩)) rfl (r_field 29 _ 3 rfl (yA (hO o 1)) zU29 rfl (n := 0) isz_23 rfl) (hK _ _ H50.out.symm (Cp.refl _)),
   fun ac W hC o q K hK => op_u (u := .slice a.A a.n a.c) rfl (r_load 23 _ rfl (yA (dL q 2 H50)) (yC (HROW.out.grown hC.grown (by simp)) 3 rfl) zU23 rfl) (hK _ _ H51.out.symm (Cp.refl _)),
   fun ac W hC o q K hK => op_u (u := .pointer (some ⟨w.heap.size, 4, none⟩)) rfl (r_field 29 _ 4 rfl (yA (hO o 1)) zU29 rfl (n := 0) isz_21 rfl) (hK _ _ H52.out.symm (Cp.refl _)),
   fun ac W hC o q K hK => op_u (u := .int .i32 f.fl) rfl (r_load 21 _ rfl (yA (dL q 4 H52)) (yC (HROW.out.grown hC.grown (by simp)) 4 rfl) zU21 rfl) (hK _ _ H53.out.symm (Cp.refl _)),
   fun ac W hC o q K hK => op_u (u := .pointer (some ⟨(w.heap.size + 2), 2, none⟩)) rfl (r_field 29 _ 2 rfl (yA (hO o 3)) zU29 rfl (n := 0) isz_22 rfl) (hK _ _ H54.out.symm (Cp.refl _)),
   by
    intro ac W hC hold hdep K hK
    obtain ⟨cur, hcur, hcs, _⟩ := hC.blk _ HP4.out
    exact op_store rfl 22 (.tmp 54) (.tmp 49) rfl 2 (.slice d.A d.n d.c) (yA (dL hdep 6 H54)) (yA (dL hdep 1 H49)) (news := [.slice d.A d.n d.c]) hcur rfl isz_22 (by rw [hcs, HPS.out]; exact (by decide : 2 + 1 ≤ 19)) (by simp [Value.oneCell']) (fun z9 u9 hu => by rcases z9 with _ | z9 <;> simp at hu; subst hu; simp) (fnB_of (by simp)) (fun w' h1 h2 => hK undef w' ⟨by obtain ⟨c2, h3, _⟩ := h2.blk _ hcur; exact ⟨c2, h3⟩, h1⟩ h2),
   fun ac W hC o q K hK => op_u (u := .pointer (some ⟨(w.heap.size + 2), 3, none⟩)) rfl (r_field 29 _ 3 rfl (yA (hO o 3)) zU29 rfl (n := 0) isz_23 rfl) (hK _ _ H55.out.symm (Cp.refl _)),
   by
    intro ac W hC hold hdep K hK
    obtain ⟨cur, hcur, hcs, _⟩ := hC.blk _ HP4.out
    exact op_store rfl 23 (.tmp 55) (.tmp 51) rfl 3 (.slice a.A a.n a.c) (yA (dL hdep 8 H55)) (yA (dL hdep 3 H51)) (news := [.slice a.A a.n a.c]) hcur rfl isz_23 (by rw [hcs, HPS.out]; exact (by decide : 3 + 1 ≤ 19)) (by simp [Value.oneCell']) (fun z9 u9 hu => by rcases z9 with _ | z9 <;> simp at hu; subst hu; simp) (fnB_of (by simp)) (fun w' h1 h2 => hK undef w' ⟨by obtain ⟨c2, h3, _⟩ := h2.blk _ hcur; exact ⟨c2, h3⟩, h1⟩ h2),
   fun ac W hC o q K hK => op_u (u := .pointer (some ⟨(w.heap.size + 2), 4, none⟩)) rfl (r_field 29 _ 4 rfl (yA (hO o 3)) zU29 rfl (n := 0) isz_21 rfl) (hK _ _ H56.out.symm (Cp.refl _)),
   by
    intro ac W hC hold hdep K hK
    obtain ⟨cur, hcur, hcs, _⟩ := hC.blk _ HP4.out
    exact op_store rfl 21 (.tmp 56) (.tmp 53) rfl 4 (.int .i32 f.fl) (yA (dL hdep 10 H56)) (yA (dL hdep 5 H53)) (news := [.int .i32 f.fl]) hcur rfl isz_21 (by rw [hcs, HPS.out]; exact (by decide : 4 + 1 ≤ 19)) (by simp [Value.oneCell']) (fun z9 u9 hu => by rcases z9 with _ | z9 <;> simp at hu; subst hu; simp) (fnB_of (by simp)) (fun w' h1 h2 => hK undef w' ⟨by obtain ⟨c2, h3, _⟩ := h2.blk _ hcur; exact ⟨c2, h3⟩, h1⟩ h2), trivial⟩ ?_
  · intro p hp v W W' h hC
    simp only [zH, reduceCtorEq, Sum.inr.injEq, zI, or_false, false_or] at hp
    rcases hp with rfl | rfl | rfl
    all_goals
     obtain ⟨⟨cur, h1⟩, h2⟩ := h
     obtain ⟨c2, h3, _⟩ := hC.blk _ h1
     refine ⟨⟨c2, h3⟩, fun z9 u9 hu => hC.keep h1 ?_ (h2 z9 u9 hu)⟩
     rcases z9 with _ | _ | _ | _ | _ | z9 <;> simp at hu <;> subst hu <;> simp
  intro wc hC
  simp only [FinC, Act.put, zD, zA, zB]
  rintro ⟨_, _, g0⟩ ⟨_, _, g1⟩ ⟨_, _, g2⟩
  clear H48 H49 H50 H51 H52 H53 H54 H55 H56
  have HFO : ([(2, .slice d.A d.n d.c), (3, .slice a.A a.n a.c), (4, .int .i32 f.fl)] : List (Nat × Value)).foldl (fun ps x => ps.setIfInBounds x.1 x.2) (Oqk1R5 t f) = (Oqk1R2 t f d a) := by kernel_rfl
  have HPC : Hid (Blk wc (w.heap.size + 2) 29 (Oqk1R2 t f d a)) := by
   unfold Hid
   rw [← HFO]
   refine hC.done HP4.out (fnB_of (by simp)) (fun k v hkv => ?_) (fun k v hkv => ?_)
   · simp only [zH, Prod.mk.injEq, zI, or_false] at hkv
     have : k ≤ 18 := by omega
     exact Nat.lt_of_le_of_lt this (by decide : 18 < 19)
   · simp only [zH, Prod.mk.injEq, zI, or_false] at hkv
     rcases hkv with ⟨rfl, rfl⟩ | ⟨rfl, rfl⟩ | ⟨rfl, rfl⟩
     · exact g0 0 _ rfl
     · exact g1 0 _ rfl
     · exact g2 0 _ rfl
  have HZC : Hid (Blk wc (w.heap.size + 1) 29 old) := HZ4.out.grown hC.grown (by simp)
  have HBC : Hid (Below w.heap.size w wc) := HB4.out.grown hC.grown (by omega) (fun k hk => by injection hk with hk; omega)
  have hzc : wc.heap.size = w.heap.size + 3 := by rw [hC.size, hz4]
  clear hC HFO g0 g1 g2
  go_wp2_with (first
   | (with_reducible refine wpAq 115 ?_
      refine wpList_load_row rfl 29 (.tmp 3) rfl (w.heap.size + 2) rfl 29 _ _ _ HPC.out zU29 rfl isz_29 ?_)
   | (with_reducible refine wpSt 2 ?_
      refine wpList_store_row rfl 29 (.tmp 2) (.tmp 115) rfl (w.heap.size + 1) (Oqk1R2 t f d a) rfl rfl 29 _ HZC.out isz_29 (by rw [HOLD.out]; rfl) (by simp [Value.oneCell']) ?_
      generalize hww : World.setRow _ _ _ = wz
      have HBZ : Hid (Blk wz (w.heap.size + 1) 29 (Oqk1R2 t f d a)) := (by unfold Hid; rw [← hww]; exact cells_setRow HZC.out)
      have HBB : Hid (Below w.heap.size w wz) := (by unfold Hid; rw [← hww]; exact below_setRow' HBC.out (by omega) _)
      clear hww))
  refine bodyPost_ret (results_cell_row rfl _ _ (w.heap.size + 1) 29 _ _ _ rfl HBZ.out zU29 rfl isz_29) rfl ?_
  exact ⟨rfl, HBB.out⟩
theorem kept_g1 (t : Int) (htt : t ∈ ([21] : List Int)) (f : OpF) (d a k0 k1 k2 k3 k4 i s : Sl) (w : World) (ht : f.t = t) : Calls Tryd.prog 78 #[.agg (f.row d a k0 k1 k2 k3 k4 i s).toArray] w fun e w' => e = .returned (.agg (keptRow f d a k0 k1 k2 k3 k4 i s).toArray) ∧ Below w.heap.size w w' := by
 have HE : Hid ((keptRow f d a k0 k1 k2 k3 k4 i s).toArray = (Oqk1R1 t f d a)) := by
  unfold Hid keptRow keptF kS
  rw [ht]
  simp only [zH, zI, or_false] at htt
  rcases htt with rfl <;> simp [tP, tD, tA, tF, tV, tW, tC, tL, tZ, tT, tS, OpF.row, Sl.v, nilS]
 rw [HE.out]
 obtain ⟨cs, hcs⟩ : ∃ cs : Array Value, cs = (f.row d a k0 k1 k2 k3 k4 i s).toArray := ⟨_, rfl⟩
 rw [← hcs]
 have hc0 : cs[0]? = some (.int .i32 t) := by rw [hcs, ← ht]; rfl
 have HC0 := Hi hc0
 have HCS := Hi hcs
 obtain ⟨w1, hw1⟩ := xa w cs 29
 have hz1 : w1.heap.size = w.heap.size + 1 := by rw [← hw1]; simp
 have HN1 := Hi (zW hw1)
 have HB1 := Hi (zV hw1)
 clear hc0 hcs ht HE
 obtain ⟨n0, n1, n2, n3, n4, n5, n6, n7, n8, n9, n10, n11, n12, n13, n14, n15, n16, n17, n18, n19, n20, _⟩ := sw_all (cs := [14, 22, 101, (-10), (-11), 11, 107, 1, 15, 19, 2, 13, 5, 7, 120, 3, 4, 8, 12, 106, 18]) htt rfl
 have S : ((t == 21) = true) := by
  simp only [zH, zI, or_false] at htt
  rcases htt with rfl <;> decide
 clear htt
 go_enter Tryd.func78, Tryd.ntmps78
 go_wp2_with (first
  | (refine wpList_new rfl 29 rfl zer_op ?_
     intro old hold
     obtain ⟨w2, hw2⟩ := xa w1 old 29
     rw [hw2]
     have hz2 : w2.heap.size = w.heap.size + 2 := (by rw [← hw2]; simp [hz1])
     have HN2 : Hid (Blk w2 w.heap.size 29 cs) := (by unfold Hid; rw [← hw2]; exact HN1.out.alloc _)
     have HZ2 : Hid (Blk w2 (w.heap.size + 1) 29 old) := (by unfold Hid; rw [← hw2]; exact Blk.new' hz1.symm)
     have HB2 : Hid (Below w.heap.size w w2) := (by unfold Hid; rw [← hw2]; exact HB1.out.alloc (by omega) _)
     have HOLD := Hi hold
     have c0 := yC HN2.out 0 HC0.out
     clear hw2 hold)
  | (refine wpList_newrow rfl rfl 29 rfl 3 rfl (.tmp 6) rfl rfl (Oqk1R4 t) (fun _ => rfl) (show 3 < 116 by decide) zer_op isz_29 (by simp [Value.oneCell']) ?_
     obtain ⟨w3, hw3⟩ := xa w2 (Oqk1R4 t) 29
     rw [hw3]
     have hz3 : w3.heap.size = w.heap.size + 3 := (by rw [← hw3]; simp [hz2])
     have HN3 : Hid (Blk w3 w.heap.size 29 cs) := (by unfold Hid; rw [← hw3]; exact HN2.out.alloc _)
     have HZ3 : Hid (Blk w3 (w.heap.size + 1) 29 old) := (by unfold Hid; rw [← hw3]; exact HZ2.out.alloc _)
     have HP3 : Hid (Blk w3 (w.heap.size + 2) 29 (Oqk1R4 t)) := (by unfold Hid; rw [← hw3]; exact Blk.new' hz2.symm)
     have HB3 : Hid (Below w.heap.size w w3) := (by unfold Hid; rw [← hw3]; exact HB2.out.alloc (by omega) _)
     have d0 := yC HN3.out 0 HC0.out
     have d1 := yC HN3.out 1 (by rw [HCS.out]; rfl : cs[1]? = some (.string f.p))
     clear hw3 c0 HN2 HZ2 HB2)
  | (with_reducible refine wpSt 41 ?_
     refine wpList_store_mid rfl 9 (.tmp 41) (.tmp 40) rfl (w.heap.size + 2) 1 (.string f.p) rfl rfl HP3.out (news := [.string f.p]) rfl isz_9 (by simp) (by simp [Value.oneCell']) ?_
     intro w4 cn hBn hxn hgn hzn
     have hz4 : w4.heap.size = w.heap.size + 3 := (by rw [hzn, hz3])
     have HN4 : Hid (Blk w4 w.heap.size 29 cs) := HN3.out.grown hgn (by simp)
     have HZ4 : Hid (Blk w4 (w.heap.size + 1) 29 old) := HZ3.out.grown hgn (by simp)
     have HP4 : Hid (Blk w4 (w.heap.size + 2) 29 (Oqk1R5 t f)) := (by
      have e : cn = (Oqk1R5 t f) := Array.ext' hxn
      unfold Hid; rw [← e]; exact hBn)
     have HB4 : Hid (Below w.heap.size w w4) := HB3.out.grown hgn (by omega) (fun k hk => by injection hk with hk; omega)
     have e0 := yC HN4.out 0 HC0.out
     clear d0 d1
     clear hBn hxn hgn hzn))
 have HROW : Hid (Blk w4 w.heap.size 29 (f.row d a k0 k1 k2 k3 k4 i s).toArray) := by unfold Hid; rw [← HCS.out]; exact HN4.out
 have HPS : Hid (((Oqk1R5 t f) : Array Value).size = 19) := rfl
 clear e0
 obtain ⟨x59, H59⟩ := xv (.pointer (some ⟨w.heap.size, 2, none⟩))
 obtain ⟨x60, H60⟩ := xv (.slice d.A d.n d.c)
 obtain ⟨x61, H61⟩ := xv (.pointer (some ⟨w.heap.size, 3, none⟩))
 obtain ⟨x62, H62⟩ := xv (.slice a.A a.n a.c)
 obtain ⟨x63, H63⟩ := xv (.pointer (some ⟨w.heap.size, 4, none⟩))
 obtain ⟨x64, H64⟩ := xv (.int .i32 f.fl)
 obtain ⟨x65, H65⟩ := xv (.pointer (some ⟨w.heap.size, 9, none⟩))
 obtain ⟨x66, H66⟩ := xv (.int .i64 f.tl)
 obtain ⟨x67, H67⟩ := xv (.pointer (some ⟨(w.heap.size + 2), 2, none⟩))
 obtain ⟨x68, H68⟩ := xv (.pointer (some ⟨(w.heap.size + 2), 3, none⟩))
 obtain ⟨x69, H69⟩ := xv (.pointer (some ⟨(w.heap.size + 2), 4, none⟩))
 obtain ⟨x70, H70⟩ := xv (.pointer (some ⟨(w.heap.size + 2), 9, none⟩))
 refine wp_region_copy (w0 := w4) (w.heap.size + 2) 29 [(2, .slice d.A d.n d.c), (3, .slice a.A a.n a.c), (4, .int .i32 f.fl), (9, .int .i64 f.tl)] (.inl x59 ::
  .inl x60 ::
  .inl x61 ::
  .inl x62 ::
  .inl x63 ::
  .inl x64 ::
  .inl x65 ::
  .inl x66 ::
  .inl x67 ::
  .inr (fun _ W => (∃ cur, Blk W (w.heap.size + 2) 29 cur) ∧ ∀ z9 u9, ([.slice d.A d.n d.c] : List Value)[z9]? = some u9 → W.cell? ⟨(w.heap.size + 2), 2 + z9, none⟩ = some u9) ::
  .inl x68 ::
  .inr (fun _ W => (∃ cur, Blk W (w.heap.size + 2) 29 cur) ∧ ∀ z9 u9, ([.slice a.A a.n a.c] : List Value)[z9]? = some u9 → W.cell? ⟨(w.heap.size + 2), 3 + z9, none⟩ = some u9) ::
  .inl x69 ::
  .inr (fun _ W => (∃ cur, Blk W (w.heap.size + 2) 29 cur) ∧ ∀ z9 u9, ([.int .i32 f.fl] : List Value)[z9]? = some u9 → W.cell? ⟨(w.heap.size + 2), 4 + z9, none⟩ = some u9) ::
  .inl x70 ::
  .inr (fun _ W => (∃ cur, Blk W (w.heap.size + 2) 29 cur) ∧ ∀ z9 u9, ([.int .i64 f.tl] : List Value)[z9]? = some u9 → W.cell? ⟨(w.heap.size + 2), 9 + z9, none⟩ = some u9) :: []) rfl (by kernel_rfl) (by kernel_rfl) (by kernel_rfl) (by kernel_rfl) ?_ ⟨fun ac W hC o q K hK => op_u (u := .pointer (some ⟨w.heap.size, 2, none⟩)) rfl (r_field 29 _ 2 rfl (yA (hO o 1)) zU29 rfl (n := 0) isz_22 rfl) (hK _ _ H59.out.symm (Cp.refl _)),
  fun ac W hC o q K hK => op_u (u := .slice d.A d.n d.c) rfl (r_load 22 _ rfl (yA (dL q 0 H59)) (yC (HROW.out.grown hC.grown (by simp)) 2 rfl) zU22 rfl) (hK _ _ H60.out.symm (Cp.refl _)),
  fun ac W hC o q K hK => op_u (u := .pointer (some ⟨w.heap.size, 3, none⟩)) rfl (r_field 29 _ 3 rfl (yA (hO o 1)) zU29 rfl (n := 0) isz_23 rfl) (hK _ _ H61.out.symm (Cp.refl _)),
  fun ac W hC o q K hK => op_u (u := .slice a.A a.n a.c) rfl (r_load 23 _ rfl (yA (dL q 2 H61)) (yC (HROW.out.grown hC.grown (by simp)) 3 rfl) zU23 rfl) (hK _ _ H62.out.symm (Cp.refl _)),
  fun ac W hC o q K hK => op_u (u := .pointer (some ⟨w.heap.size, 4, none⟩)) rfl (r_field 29 _ 4 rfl (yA (hO o 1)) zU29 rfl (n := 0) isz_21 rfl) (hK _ _ H63.out.symm (Cp.refl _)),
  fun ac W hC o q K hK => op_u (u := .int .i32 f.fl) rfl (r_load 21 _ rfl (yA (dL q 4 H63)) (yC (HROW.out.grown hC.grown (by simp)) 4 rfl) zU21 rfl) (hK _ _ H64.out.symm (Cp.refl _)),
  fun ac W hC o q K hK => op_u (u := .pointer (some ⟨w.heap.size, 9, none⟩)) rfl (r_field 29 _ 9 rfl (yA (hO o 1)) zU29 rfl (n := 0) isz_2 rfl) (hK _ _ H65.out.symm (Cp.refl _)),
  fun ac W hC o q K hK => op_u (u := .int .i64 f.tl) rfl (r_load 2 _ rfl (yA (dL q 6 H65)) (yC (HROW.out.grown hC.grown (by simp)) 9 rfl) zU2 rfl) (hK _ _ H66.out.symm (Cp.refl _)),
  fun ac W hC o q K hK => op_u (u := .pointer (some ⟨(w.heap.size + 2), 2, none⟩)) rfl (r_field 29 _ 2 rfl (yA (hO o 3)) zU29 rfl (n := 0) isz_22 rfl) (hK _ _ H67.out.symm (Cp.refl _)),
  by
   intro ac W hC hold hdep K hK
   obtain ⟨cur, hcur, hcs, _⟩ := hC.blk _ HP4.out
   exact op_store rfl 22 (.tmp 67) (.tmp 60) rfl 2 (.slice d.A d.n d.c) (yA (dL hdep 8 H67)) (yA (dL hdep 1 H60)) (news := [.slice d.A d.n d.c]) hcur rfl isz_22 (by rw [hcs, HPS.out]; exact (by decide : 2 + 1 ≤ 19)) (by simp [Value.oneCell']) (fun z9 u9 hu => by rcases z9 with _ | z9 <;> simp at hu; subst hu; simp) (fnB_of (by simp)) (fun w' h1 h2 => hK undef w' ⟨by obtain ⟨c2, h3, _⟩ := h2.blk _ hcur; exact ⟨c2, h3⟩, h1⟩ h2),
  fun ac W hC o q K hK => op_u (u := .pointer (some ⟨(w.heap.size + 2), 3, none⟩)) rfl (r_field 29 _ 3 rfl (yA (hO o 3)) zU29 rfl (n := 0) isz_23 rfl) (hK _ _ H68.out.symm (Cp.refl _)),
  by
   intro ac W hC hold hdep K hK
   obtain ⟨cur, hcur, hcs, _⟩ := hC.blk _ HP4.out
   exact op_store rfl 23 (.tmp 68) (.tmp 62) rfl 3 (.slice a.A a.n a.c) (yA (dL hdep 10 H68)) (yA (dL hdep 3 H62)) (news := [.slice a.A a.n a.c]) hcur rfl isz_23 (by rw [hcs, HPS.out]; exact (by decide : 3 + 1 ≤ 19)) (by simp [Value.oneCell']) (fun z9 u9 hu => by rcases z9 with _ | z9 <;> simp at hu; subst hu; simp) (fnB_of (by simp)) (fun w' h1 h2 => hK undef w' ⟨by obtain ⟨c2, h3, _⟩ := h2.blk _ hcur; exact ⟨c2, h3⟩, h1⟩ h2),
  fun ac W hC o q K hK => op_u (u := .pointer (some ⟨(w.heap.size + 2), 4, none⟩)) rfl (r_field 29 _ 4 rfl (yA (hO o 3)) zU29 rfl (n := 0) isz_21 rfl) (hK _ _ H69.out.symm (Cp.refl _)),
  by
   intro ac W hC hold hdep K hK
   obtain ⟨cur, hcur, hcs, _⟩ := hC.blk _ HP4.out
   exact op_store rfl 21 (.tmp 69) (.tmp 64) rfl 4 (.int .i32 f.fl) (yA (dL hdep 12 H69)) (yA (dL hdep 5 H64)) (news := [.int .i32 f.fl]) hcur rfl isz_21 (by rw [hcs, HPS.out]; exact (by decide : 4 + 1 ≤ 19)) (by simp [Value.oneCell']) (fun z9 u9 hu => by rcases z9 with _ | z9 <;> simp at hu; subst hu; simp) (fnB_of (by simp)) (fun w' h1 h2 => hK undef w' ⟨by obtain ⟨c2, h3, _⟩ := h2.blk _ hcur; exact ⟨c2, h3⟩, h1⟩ h2),
  fun ac W hC o q K hK => op_u (u := .pointer (some ⟨(w.heap.size + 2), 9, none⟩)) rfl (r_field 29 _ 9 rfl (yA (hO o 3)) zU29 rfl (n := 0) isz_2 rfl) (hK _ _ H70.out.symm (Cp.refl _)),
  by
   intro ac W hC hold hdep K hK
   obtain ⟨cur, hcur, hcs, _⟩ := hC.blk _ HP4.out
   exact op_store rfl 2 (.tmp 70) (.tmp 66) rfl 9 (.int .i64 f.tl) (yA (dL hdep 14 H70)) (yA (dL hdep 7 H66)) (news := [.int .i64 f.tl]) hcur rfl isz_2 (by rw [hcs, HPS.out]; exact (by decide : 9 + 1 ≤ 19)) (by simp [Value.oneCell']) (fun z9 u9 hu => by rcases z9 with _ | z9 <;> simp at hu; subst hu; simp) (fnB_of (by simp)) (fun w' h1 h2 => hK undef w' ⟨by obtain ⟨c2, h3, _⟩ := h2.blk _ hcur; exact ⟨c2, h3⟩, h1⟩ h2), trivial⟩ ?_
 · intro p hp v W W' h hC
   simp only [zH, reduceCtorEq, Sum.inr.injEq, zI, or_false, false_or] at hp
   rcases hp with rfl | rfl | rfl | rfl
   all_goals
    obtain ⟨⟨cur, h1⟩, h2⟩ := h
    obtain ⟨c2, h3, _⟩ := hC.blk _ h1
    refine ⟨⟨c2, h3⟩, fun z9 u9 hu => hC.keep h1 ?_ (h2 z9 u9 hu)⟩
    rcases z9 with _ | _ | _ | _ | _ | z9 <;> simp at hu <;> subst hu <;> simp
 intro wc hC
 simp only [FinC, Act.put, zD, zA, zB]
 rintro ⟨_, _, g0⟩ ⟨_, _, g1⟩ ⟨_, _, g2⟩ ⟨_, _, g3⟩
 clear H59 H60 H61 H62 H63 H64 H65 H66 H67 H68 H69 H70
 have HFO : ([(2, .slice d.A d.n d.c), (3, .slice a.A a.n a.c), (4, .int .i32 f.fl), (9, .int .i64 f.tl)] : List (Nat × Value)).foldl (fun ps x => ps.setIfInBounds x.1 x.2) (Oqk1R5 t f) = (Oqk1R1 t f d a) := by kernel_rfl
 have HPC : Hid (Blk wc (w.heap.size + 2) 29 (Oqk1R1 t f d a)) := by
  unfold Hid
  rw [← HFO]
  refine hC.done HP4.out (fnB_of (by simp)) (fun k v hkv => ?_) (fun k v hkv => ?_)
  · simp only [zH, Prod.mk.injEq, zI, or_false] at hkv
    have : k ≤ 18 := by omega
    exact Nat.lt_of_le_of_lt this (by decide : 18 < 19)
  · simp only [zH, Prod.mk.injEq, zI, or_false] at hkv
    rcases hkv with ⟨rfl, rfl⟩ | ⟨rfl, rfl⟩ | ⟨rfl, rfl⟩ | ⟨rfl, rfl⟩
    · exact g0 0 _ rfl
    · exact g1 0 _ rfl
    · exact g2 0 _ rfl
    · exact g3 0 _ rfl
 have HZC : Hid (Blk wc (w.heap.size + 1) 29 old) := HZ4.out.grown hC.grown (by simp)
 have HBC : Hid (Below w.heap.size w wc) := HB4.out.grown hC.grown (by omega) (fun k hk => by injection hk with hk; omega)
 have hzc : wc.heap.size = w.heap.size + 3 := by rw [hC.size, hz4]
 clear hC HFO g0 g1 g2 g3
 go_wp2_with (first
  | (with_reducible refine wpAq 115 ?_
     refine wpList_load_row rfl 29 (.tmp 3) rfl (w.heap.size + 2) rfl 29 _ _ _ HPC.out zU29 rfl isz_29 ?_)
  | (with_reducible refine wpSt 2 ?_
     refine wpList_store_row rfl 29 (.tmp 2) (.tmp 115) rfl (w.heap.size + 1) (Oqk1R1 t f d a) rfl rfl 29 _ HZC.out isz_29 (by rw [HOLD.out]; rfl) (by simp [Value.oneCell']) ?_
     generalize hww : World.setRow _ _ _ = wz
     have HBZ : Hid (Blk wz (w.heap.size + 1) 29 (Oqk1R1 t f d a)) := (by unfold Hid; rw [← hww]; exact cells_setRow HZC.out)
     have HBB : Hid (Below w.heap.size w wz) := (by unfold Hid; rw [← hww]; exact below_setRow' HBC.out (by omega) _)
     clear hww))
 refine bodyPost_ret (results_cell_row rfl _ _ (w.heap.size + 1) 29 _ _ _ rfl HBZ.out zU29 rfl isz_29) rfl ?_
 exact ⟨rfl, HBB.out⟩
theorem kept_g4 (t : Int) (htt : t ∈ ([7] : List Int)) (f : OpF) (d a k0 k1 k2 k3 k4 i s : Sl) (w : World) (ht : f.t = t) : Calls Tryd.prog 78 #[.agg (f.row d a k0 k1 k2 k3 k4 i s).toArray] w fun e w' => e = .returned (.agg (keptRow f d a k0 k1 k2 k3 k4 i s).toArray) ∧ Below w.heap.size w w' := by
 have HE : Hid ((keptRow f d a k0 k1 k2 k3 k4 i s).toArray = (Oqk1R3 t f a)) := by
  unfold Hid keptRow keptF kS
  rw [ht]
  simp only [zH, zI, or_false] at htt
  rcases htt with rfl <;> simp [tP, tD, tA, tF, tV, tW, tC, tL, tZ, tT, tS, OpF.row, Sl.v, nilS]
 rw [HE.out]
 obtain ⟨cs, hcs⟩ : ∃ cs : Array Value, cs = (f.row d a k0 k1 k2 k3 k4 i s).toArray := ⟨_, rfl⟩
 rw [← hcs]
 have hc0 : cs[0]? = some (.int .i32 t) := by rw [hcs, ← ht]; rfl
 have HC0 := Hi hc0
 have HCS := Hi hcs
 obtain ⟨w1, hw1⟩ := xa w cs 29
 have hz1 : w1.heap.size = w.heap.size + 1 := by rw [← hw1]; simp
 have HN1 := Hi (zW hw1)
 have HB1 := Hi (zV hw1)
 clear hc0 hcs ht HE
 obtain ⟨n0, n1, n2, n3, n4, n5, n6, n7, n8, n9, n10, n11, n12, n13, n14, n15, n16, n17, n18, n19, n20, _⟩ := sw_all (cs := [14, 22, 101, (-10), (-11), 11, 107, 1, 15, 19, 21, 2, 13, 5, 120, 3, 4, 8, 12, 106, 18]) htt rfl
 have S : ((t == 7) = true) := by
  simp only [zH, zI, or_false] at htt
  rcases htt with rfl <;> decide
 clear htt
 go_enter Tryd.func78, Tryd.ntmps78
 go_wp2_with (first
  | (refine wpList_new rfl 29 rfl zer_op ?_
     intro old hold
     obtain ⟨w2, hw2⟩ := xa w1 old 29
     rw [hw2]
     have hz2 : w2.heap.size = w.heap.size + 2 := (by rw [← hw2]; simp [hz1])
     have HN2 : Hid (Blk w2 w.heap.size 29 cs) := (by unfold Hid; rw [← hw2]; exact HN1.out.alloc _)
     have HZ2 : Hid (Blk w2 (w.heap.size + 1) 29 old) := (by unfold Hid; rw [← hw2]; exact Blk.new' hz1.symm)
     have HB2 : Hid (Below w.heap.size w w2) := (by unfold Hid; rw [← hw2]; exact HB1.out.alloc (by omega) _)
     have HOLD := Hi hold
     have c0 := yC HN2.out 0 HC0.out
     clear hw2 hold)
  | (refine wpList_newrow rfl rfl 29 rfl 3 rfl (.tmp 6) rfl rfl (Oqk1R4 t) (fun _ => rfl) (show 3 < 116 by decide) zer_op isz_29 (by simp [Value.oneCell']) ?_
     obtain ⟨w3, hw3⟩ := xa w2 (Oqk1R4 t) 29
     rw [hw3]
     have hz3 : w3.heap.size = w.heap.size + 3 := (by rw [← hw3]; simp [hz2])
     have HN3 : Hid (Blk w3 w.heap.size 29 cs) := (by unfold Hid; rw [← hw3]; exact HN2.out.alloc _)
     have HZ3 : Hid (Blk w3 (w.heap.size + 1) 29 old) := (by unfold Hid; rw [← hw3]; exact HZ2.out.alloc _)
     have HP3 : Hid (Blk w3 (w.heap.size + 2) 29 (Oqk1R4 t)) := (by unfold Hid; rw [← hw3]; exact Blk.new' hz2.symm)
     have HB3 : Hid (Below w.heap.size w w3) := (by unfold Hid; rw [← hw3]; exact HB2.out.alloc (by omega) _)
     have d0 := yC HN3.out 0 HC0.out
     have d1 := yC HN3.out 1 (by rw [HCS.out]; rfl : cs[1]? = some (.string f.p))
     clear hw3 c0 HN2 HZ2 HB2)
  | (with_reducible refine wpSt 41 ?_
     refine wpList_store_mid rfl 9 (.tmp 41) (.tmp 40) rfl (w.heap.size + 2) 1 (.string f.p) rfl rfl HP3.out (news := [.string f.p]) rfl isz_9 (by simp) (by simp [Value.oneCell']) ?_
     intro w4 cn hBn hxn hgn hzn
     have hz4 : w4.heap.size = w.heap.size + 3 := (by rw [hzn, hz3])
     have HN4 : Hid (Blk w4 w.heap.size 29 cs) := HN3.out.grown hgn (by simp)
     have HZ4 : Hid (Blk w4 (w.heap.size + 1) 29 old) := HZ3.out.grown hgn (by simp)
     have HP4 : Hid (Blk w4 (w.heap.size + 2) 29 (Oqk1R5 t f)) := (by
      have e : cn = (Oqk1R5 t f) := Array.ext' hxn
      unfold Hid; rw [← e]; exact hBn)
     have HB4 : Hid (Below w.heap.size w w4) := HB3.out.grown hgn (by omega) (fun k hk => by injection hk with hk; omega)
     have e0 := yC HN4.out 0 HC0.out
     clear d0 d1
     clear hBn hxn hgn hzn))
 have HROW : Hid (Blk w4 w.heap.size 29 (f.row d a k0 k1 k2 k3 k4 i s).toArray) := by unfold Hid; rw [← HCS.out]; exact HN4.out
 have HPS : Hid (((Oqk1R5 t f) : Array Value).size = 19) := rfl
 clear e0
 obtain ⟨x87, H87⟩ := xv (.pointer (some ⟨w.heap.size, 3, none⟩))
 obtain ⟨x88, H88⟩ := xv (.slice a.A a.n a.c)
 obtain ⟨x89, H89⟩ := xv (.pointer (some ⟨w.heap.size, 5, none⟩))
 obtain ⟨x90, H90⟩ := xv (.int .i32 f.ve)
 obtain ⟨x91, H91⟩ := xv (.pointer (some ⟨(w.heap.size + 2), 3, none⟩))
 obtain ⟨x92, H92⟩ := xv (.pointer (some ⟨(w.heap.size + 2), 5, none⟩))
 refine wp_region_copy (w0 := w4) (w.heap.size + 2) 29 [(3, .slice a.A a.n a.c), (5, .int .i32 f.ve)] (.inl x87 ::
  .inl x88 ::
  .inl x89 ::
  .inl x90 ::
  .inl x91 ::
  .inr (fun _ W => (∃ cur, Blk W (w.heap.size + 2) 29 cur) ∧ ∀ z9 u9, ([.slice a.A a.n a.c] : List Value)[z9]? = some u9 → W.cell? ⟨(w.heap.size + 2), 3 + z9, none⟩ = some u9) ::
  .inl x92 ::
  .inr (fun _ W => (∃ cur, Blk W (w.heap.size + 2) 29 cur) ∧ ∀ z9 u9, ([.int .i32 f.ve] : List Value)[z9]? = some u9 → W.cell? ⟨(w.heap.size + 2), 5 + z9, none⟩ = some u9) :: []) rfl (by kernel_rfl) (by kernel_rfl) (by kernel_rfl) (by kernel_rfl) ?_ ⟨fun ac W hC o q K hK => op_u (u := .pointer (some ⟨w.heap.size, 3, none⟩)) rfl (r_field 29 _ 3 rfl (yA (hO o 1)) zU29 rfl (n := 0) isz_23 rfl) (hK _ _ H87.out.symm (Cp.refl _)),
  fun ac W hC o q K hK => op_u (u := .slice a.A a.n a.c) rfl (r_load 23 _ rfl (yA (dL q 0 H87)) (yC (HROW.out.grown hC.grown (by simp)) 3 rfl) zU23 rfl) (hK _ _ H88.out.symm (Cp.refl _)),
  fun ac W hC o q K hK => op_u (u := .pointer (some ⟨w.heap.size, 5, none⟩)) rfl (r_field 29 _ 5 rfl (yA (hO o 1)) zU29 rfl (n := 0) isz_21 rfl) (hK _ _ H89.out.symm (Cp.refl _)),
  fun ac W hC o q K hK => op_u (u := .int .i32 f.ve) rfl (r_load 21 _ rfl (yA (dL q 2 H89)) (yC (HROW.out.grown hC.grown (by simp)) 5 rfl) zU21 rfl) (hK _ _ H90.out.symm (Cp.refl _)),
  fun ac W hC o q K hK => op_u (u := .pointer (some ⟨(w.heap.size + 2), 3, none⟩)) rfl (r_field 29 _ 3 rfl (yA (hO o 3)) zU29 rfl (n := 0) isz_23 rfl) (hK _ _ H91.out.symm (Cp.refl _)),
  by
   intro ac W hC hold hdep K hK
   obtain ⟨cur, hcur, hcs, _⟩ := hC.blk _ HP4.out
   exact op_store rfl 23 (.tmp 91) (.tmp 88) rfl 3 (.slice a.A a.n a.c) (yA (dL hdep 4 H91)) (yA (dL hdep 1 H88)) (news := [.slice a.A a.n a.c]) hcur rfl isz_23 (by rw [hcs, HPS.out]; exact (by decide : 3 + 1 ≤ 19)) (by simp [Value.oneCell']) (fun z9 u9 hu => by rcases z9 with _ | z9 <;> simp at hu; subst hu; simp) (fnB_of (by simp)) (fun w' h1 h2 => hK undef w' ⟨by obtain ⟨c2, h3, _⟩ := h2.blk _ hcur; exact ⟨c2, h3⟩, h1⟩ h2),
  fun ac W hC o q K hK => op_u (u := .pointer (some ⟨(w.heap.size + 2), 5, none⟩)) rfl (r_field 29 _ 5 rfl (yA (hO o 3)) zU29 rfl (n := 0) isz_21 rfl) (hK _ _ H92.out.symm (Cp.refl _)),
  by
   intro ac W hC hold hdep K hK
   obtain ⟨cur, hcur, hcs, _⟩ := hC.blk _ HP4.out
   exact op_store rfl 21 (.tmp 92) (.tmp 90) rfl 5 (.int .i32 f.ve) (yA (dL hdep 6 H92)) (yA (dL hdep 3 H90)) (news := [.int .i32 f.ve]) hcur rfl isz_21 (by rw [hcs, HPS.out]; exact (by decide : 5 + 1 ≤ 19)) (by simp [Value.oneCell']) (fun z9 u9 hu => by rcases z9 with _ | z9 <;> simp at hu; subst hu; simp) (fnB_of (by simp)) (fun w' h1 h2 => hK undef w' ⟨by obtain ⟨c2, h3, _⟩ := h2.blk _ hcur; exact ⟨c2, h3⟩, h1⟩ h2), trivial⟩ ?_
 · intro p hp v W W' h hC
   simp only [zH, reduceCtorEq, Sum.inr.injEq, zI, or_false, false_or] at hp
   rcases hp with rfl | rfl
   all_goals
    obtain ⟨⟨cur, h1⟩, h2⟩ := h
    obtain ⟨c2, h3, _⟩ := hC.blk _ h1
    refine ⟨⟨c2, h3⟩, fun z9 u9 hu => hC.keep h1 ?_ (h2 z9 u9 hu)⟩
    rcases z9 with _ | _ | _ | _ | _ | z9 <;> simp at hu <;> subst hu <;> simp
 intro wc hC
 simp only [FinC, Act.put, zD, zA, zB]
 rintro ⟨_, _, g0⟩ ⟨_, _, g1⟩
 clear H87 H88 H89 H90 H91 H92
 have HFO : ([(3, .slice a.A a.n a.c), (5, .int .i32 f.ve)] : List (Nat × Value)).foldl (fun ps x => ps.setIfInBounds x.1 x.2) (Oqk1R5 t f) = (Oqk1R3 t f a) := by kernel_rfl
 have HPC : Hid (Blk wc (w.heap.size + 2) 29 (Oqk1R3 t f a)) := by
  unfold Hid
  rw [← HFO]
  refine hC.done HP4.out (fnB_of (by simp)) (fun k v hkv => ?_) (fun k v hkv => ?_)
  · simp only [zH, Prod.mk.injEq, zI, or_false] at hkv
    have : k ≤ 18 := by omega
    exact Nat.lt_of_le_of_lt this (by decide : 18 < 19)
  · simp only [zH, Prod.mk.injEq, zI, or_false] at hkv
    rcases hkv with ⟨rfl, rfl⟩ | ⟨rfl, rfl⟩
    · exact g0 0 _ rfl
    · exact g1 0 _ rfl
 have HZC : Hid (Blk wc (w.heap.size + 1) 29 old) := HZ4.out.grown hC.grown (by simp)
 have HBC : Hid (Below w.heap.size w wc) := HB4.out.grown hC.grown (by omega) (fun k hk => by injection hk with hk; omega)
 have hzc : wc.heap.size = w.heap.size + 3 := by rw [hC.size, hz4]
 clear hC HFO g0 g1
 go_wp2_with (first
  | (with_reducible refine wpAq 115 ?_
     refine wpList_load_row rfl 29 (.tmp 3) rfl (w.heap.size + 2) rfl 29 _ _ _ HPC.out zU29 rfl isz_29 ?_)
  | (with_reducible refine wpSt 2 ?_
     refine wpList_store_row rfl 29 (.tmp 2) (.tmp 115) rfl (w.heap.size + 1) (Oqk1R3 t f a) rfl rfl 29 _ HZC.out isz_29 (by rw [HOLD.out]; rfl) (by simp [Value.oneCell']) ?_
     generalize hww : World.setRow _ _ _ = wz
     have HBZ : Hid (Blk wz (w.heap.size + 1) 29 (Oqk1R3 t f a)) := (by unfold Hid; rw [← hww]; exact cells_setRow HZC.out)
     have HBB : Hid (Below w.heap.size w wz) := (by unfold Hid; rw [← hww]; exact below_setRow' HBC.out (by omega) _)
     clear hww))
 refine bodyPost_ret (results_cell_row rfl _ _ (w.heap.size + 1) 29 _ _ _ rfl HBZ.out zU29 rfl isz_29) rfl ?_
 exact ⟨rfl, HBB.out⟩

abbrev Oqk2R1 (t : Int) (f : OpF) : Array Value := #[.int .i32 t, .string f.p, .slice none 0 0, .slice none 0 0, .int .i32 0, .int .i32 0, .bool false, .int .i64 f.ct, .int .i64 f.by_, .int .i64 0, .int .i64 0, .slice none 0 0, .slice none 0 0, .slice none 0 0, .slice none 0 0, .slice none 0 0, .int .i32 0, .slice none 0 0, .slice none 0 0]
abbrev Oqk2R2 (t : Int) (f : OpF) (d : Sl) : Array Value := #[.int .i32 t, .string f.p, .slice d.A d.n d.c, .slice none 0 0, .int .i32 0, .int .i32 f.ve, .bool false, .int .i64 0, .int .i64 0, .int .i64 0, .int .i64 0, .slice none 0 0, .slice none 0 0, .slice none 0 0, .slice none 0 0, .slice none 0 0, .int .i32 0, .slice none 0 0, .slice none 0 0]
abbrev Oqk2R3 (t : Int) (f : OpF) : Array Value := #[.int .i32 t, .string f.p, .slice none 0 0, .slice none 0 0, .int .i32 0, .int .i32 f.ve, .bool false, .int .i64 0, .int .i64 0, .int .i64 0, .int .i64 0, .slice none 0 0, .slice none 0 0, .slice none 0 0, .slice none 0 0, .slice none 0 0, .int .i32 0, .slice none 0 0, .slice none 0 0]
abbrev Oqk2R4 (t : Int) (f : OpF) : Array Value := #[.int .i32 t, .string f.p, .slice none 0 0, .slice none 0 0, .int .i32 f.fl, .int .i32 0, .bool false, .int .i64 0, .int .i64 0, .int .i64 0, .int .i64 0, .slice none 0 0, .slice none 0 0, .slice none 0 0, .slice none 0 0, .slice none 0 0, .int .i32 0, .slice none 0 0, .slice none 0 0]
abbrev Oqk2R5 (t : Int) : Array Value := #[.int .i32 t, .string ⟨#[]⟩, .slice none 0 0, .slice none 0 0, .int .i32 0, .int .i32 0, .bool false, .int .i64 0, .int .i64 0, .int .i64 0, .int .i64 0, .slice none 0 0, .slice none 0 0, .slice none 0 0, .slice none 0 0, .slice none 0 0, .int .i32 0, .slice none 0 0, .slice none 0 0]
abbrev Oqk2R6 (t : Int) (f : OpF) : Array Value := #[.int .i32 t, .string f.p, .slice none 0 0, .slice none 0 0, .int .i32 0, .int .i32 0, .bool false, .int .i64 0, .int .i64 0, .int .i64 0, .int .i64 0, .slice none 0 0, .slice none 0 0, .slice none 0 0, .slice none 0 0, .slice none 0 0, .int .i32 0, .slice none 0 0, .slice none 0 0]

theorem kept_g2 (t : Int) (htt : t ∈ ([2, 13] : List Int)) (f : OpF) (d a k0 k1 k2 k3 k4 i s : Sl) (w : World) (ht : f.t = t) : Calls Tryd.prog 78 #[.agg (f.row d a k0 k1 k2 k3 k4 i s).toArray] w fun e w' => e = .returned (.agg (keptRow f d a k0 k1 k2 k3 k4 i s).toArray) ∧ Below w.heap.size w w' := by
 have HE : Hid ((keptRow f d a k0 k1 k2 k3 k4 i s).toArray = (Oqk2R3 t f)) := by
  unfold Hid keptRow keptF kS
  rw [ht]
  simp only [zH, zI, or_false] at htt
  rcases htt with rfl | rfl <;> simp [tP, tD, tA, tF, tV, tW, tC, tL, tZ, tT, tS, OpF.row, Sl.v, nilS]
 rw [HE.out]
 obtain ⟨cs, hcs⟩ : ∃ cs : Array Value, cs = (f.row d a k0 k1 k2 k3 k4 i s).toArray := ⟨_, rfl⟩
 rw [← hcs]
 have hc0 : cs[0]? = some (.int .i32 t) := by rw [hcs, ← ht]; rfl
 have HC0 := Hi hc0
 have HCS := Hi hcs
 obtain ⟨w1, hw1⟩ := xa w cs 29
 have hz1 : w1.heap.size = w.heap.size + 1 := by rw [← hw1]; simp
 have HN1 := Hi (zW hw1)
 have HB1 := Hi (zV hw1)
 clear hc0 hcs ht HE
 obtain ⟨n0, n1, n2, n3, n4, n5, n6, n7, n8, n9, n10, n11, n12, n13, n14, n15, n16, n17, n18, n19, _⟩ := sw_all (cs := [14, 22, 101, (-10), (-11), 11, 107, 1, 15, 19, 21, 5, 7, 120, 3, 4, 8, 12, 106, 18]) htt rfl
 have S : ((t == 2) = true) ∨ ((t == 2) = false ∧ (t == 13) = true) := by
  simp only [zH, zI, or_false] at htt
  rcases htt with rfl | rfl <;> decide
 clear htt
 rcases S with s0 | ⟨s0, s1⟩
 all_goals
  go_enter Tryd.func78, Tryd.ntmps78
  go_wp2_with (first
   | (refine wpList_new rfl 29 rfl zer_op ?_
      intro old hold
      obtain ⟨w2, hw2⟩ := xa w1 old 29
      rw [hw2]
      have hz2 : w2.heap.size = w.heap.size + 2 := (by rw [← hw2]; simp [hz1])
      have HN2 : Hid (Blk w2 w.heap.size 29 cs) := (by unfold Hid; rw [← hw2]; exact HN1.out.alloc _)
      have HZ2 : Hid (Blk w2 (w.heap.size + 1) 29 old) := (by unfold Hid; rw [← hw2]; exact Blk.new' hz1.symm)
      have HB2 : Hid (Below w.heap.size w w2) := (by unfold Hid; rw [← hw2]; exact HB1.out.alloc (by omega) _)
      have HOLD := Hi hold
      have c0 := yC HN2.out 0 HC0.out
      clear hw2 hold)
   | (refine wpList_newrow rfl rfl 29 rfl 3 rfl (.tmp 6) rfl rfl (Oqk2R5 t) (fun _ => rfl) (show 3 < 116 by decide) zer_op isz_29 (by simp [Value.oneCell']) ?_
      obtain ⟨w3, hw3⟩ := xa w2 (Oqk2R5 t) 29
      rw [hw3]
      have hz3 : w3.heap.size = w.heap.size + 3 := (by rw [← hw3]; simp [hz2])
      have HN3 : Hid (Blk w3 w.heap.size 29 cs) := (by unfold Hid; rw [← hw3]; exact HN2.out.alloc _)
      have HZ3 : Hid (Blk w3 (w.heap.size + 1) 29 old) := (by unfold Hid; rw [← hw3]; exact HZ2.out.alloc _)
      have HP3 : Hid (Blk w3 (w.heap.size + 2) 29 (Oqk2R5 t)) := (by unfold Hid; rw [← hw3]; exact Blk.new' hz2.symm)
      have HB3 : Hid (Below w.heap.size w w3) := (by unfold Hid; rw [← hw3]; exact HB2.out.alloc (by omega) _)
      have d0 := yC HN3.out 0 HC0.out
      have d1 := yC HN3.out 1 (by rw [HCS.out]; rfl : cs[1]? = some (.string f.p))
      clear hw3 c0 HN2 HZ2 HB2)
   | (with_reducible refine wpSt 41 ?_
      refine wpList_store_mid rfl 9 (.tmp 41) (.tmp 40) rfl (w.heap.size + 2) 1 (.string f.p) rfl rfl HP3.out (news := [.string f.p]) rfl isz_9 (by simp) (by simp [Value.oneCell']) ?_
      intro w4 cn hBn hxn hgn hzn
      have hz4 : w4.heap.size = w.heap.size + 3 := (by rw [hzn, hz3])
      have HN4 : Hid (Blk w4 w.heap.size 29 cs) := HN3.out.grown hgn (by simp)
      have HZ4 : Hid (Blk w4 (w.heap.size + 1) 29 old) := HZ3.out.grown hgn (by simp)
      have HP4 : Hid (Blk w4 (w.heap.size + 2) 29 (Oqk2R6 t f)) := (by
       have e : cn = (Oqk2R6 t f) := Array.ext' hxn
       unfold Hid; rw [← e]; exact hBn)
      have HB4 : Hid (Below w.heap.size w w4) := HB3.out.grown hgn (by omega) (fun k hk => by injection hk with hk; omega)
      have e0 := yC HN4.out 0 HC0.out
      have e5 := yC HN4.out 5 (by rw [HCS.out]; rfl : cs[5]? = some (.int .i32 f.ve))
      clear d0 d1
      clear hBn hxn hgn hzn)
   | (with_reducible refine wpSt 76 ?_
      refine wpList_store_mid rfl 21 (.tmp 76) (.tmp 75) rfl (w.heap.size + 2) 5 (.int .i32 f.ve) rfl rfl HP4.out (news := [.int .i32 f.ve]) rfl isz_21 (by simp) (by simp [Value.oneCell']) ?_
      intro w5 cn hBn hxn hgn hzn
      have hz5 : w5.heap.size = w.heap.size + 3 := (by rw [hzn, hz4])
      have HN5 : Hid (Blk w5 w.heap.size 29 cs) := HN4.out.grown hgn (by simp)
      have HZ5 : Hid (Blk w5 (w.heap.size + 1) 29 old) := HZ4.out.grown hgn (by simp)
      have HP5 : Hid (Blk w5 (w.heap.size + 2) 29 (Oqk2R3 t f)) := (by
       have e : cn = (Oqk2R3 t f) := Array.ext' hxn
       unfold Hid; rw [← e]; exact hBn)
      have HB5 : Hid (Below w.heap.size w w5) := HB4.out.grown hgn (by omega) (fun k hk => by injection hk with hk; omega)
      clear hBn hxn hgn hzn)
   | (with_reducible refine wpAq 115 ?_
      refine wpList_load_row rfl 29 (.tmp 3) rfl (w.heap.size + 2) rfl 29 _ _ _ HP5.out zU29 rfl isz_29 ?_)
   | (with_reducible refine wpSt 2 ?_
      refine wpList_store_row rfl 29 (.tmp 2) (.tmp 115) rfl (w.heap.size + 1) (Oqk2R3 t f) rfl rfl 29 _ HZ5.out isz_29 (by rw [HOLD.out]; rfl) (by simp [Value.oneCell']) ?_
      generalize hww : World.setRow _ _ _ = wz
      have HBZ : Hid (Blk wz (w.heap.size + 1) 29 (Oqk2R3 t f)) := (by unfold Hid; rw [← hww]; exact cells_setRow HZ5.out)
      have HBB : Hid (Below w.heap.size w wz) := (by unfold Hid; rw [← hww]; exact below_setRow' HB5.out (by omega) _)
      clear hww))
  refine bodyPost_ret (results_cell_row rfl _ _ (w.heap.size + 1) 29 _ _ _ rfl HBZ.out zU29 rfl isz_29) rfl ?_
  exact ⟨rfl, HBB.out⟩
theorem kept_g3 (t : Int) (htt : t ∈ ([5] : List Int)) (f : OpF) (d a k0 k1 k2 k3 k4 i s : Sl) (w : World) (ht : f.t = t) : Calls Tryd.prog 78 #[.agg (f.row d a k0 k1 k2 k3 k4 i s).toArray] w fun e w' => e = .returned (.agg (keptRow f d a k0 k1 k2 k3 k4 i s).toArray) ∧ Below w.heap.size w w' := by
 have HE : Hid ((keptRow f d a k0 k1 k2 k3 k4 i s).toArray = (Oqk2R2 t f d)) := by
  unfold Hid keptRow keptF kS
  rw [ht]
  simp only [zH, zI, or_false] at htt
  rcases htt with rfl <;> simp [tP, tD, tA, tF, tV, tW, tC, tL, tZ, tT, tS, OpF.row, Sl.v, nilS]
 rw [HE.out]
 obtain ⟨cs, hcs⟩ : ∃ cs : Array Value, cs = (f.row d a k0 k1 k2 k3 k4 i s).toArray := ⟨_, rfl⟩
 rw [← hcs]
 have hc0 : cs[0]? = some (.int .i32 t) := by rw [hcs, ← ht]; rfl
 have HC0 := Hi hc0
 have HCS := Hi hcs
 obtain ⟨w1, hw1⟩ := xa w cs 29
 have hz1 : w1.heap.size = w.heap.size + 1 := by rw [← hw1]; simp
 have HN1 := Hi (zW hw1)
 have HB1 := Hi (zV hw1)
 clear hc0 hcs ht HE
 obtain ⟨n0, n1, n2, n3, n4, n5, n6, n7, n8, n9, n10, n11, n12, n13, n14, n15, n16, n17, n18, n19, n20, _⟩ := sw_all (cs := [14, 22, 101, (-10), (-11), 11, 107, 1, 15, 19, 21, 2, 13, 7, 120, 3, 4, 8, 12, 106, 18]) htt rfl
 have S : ((t == 5) = true) := by
  simp only [zH, zI, or_false] at htt
  rcases htt with rfl <;> decide
 clear htt
 go_enter Tryd.func78, Tryd.ntmps78
 go_wp2_with (first
  | (refine wpList_new rfl 29 rfl zer_op ?_
     intro old hold
     obtain ⟨w2, hw2⟩ := xa w1 old 29
     rw [hw2]
     have hz2 : w2.heap.size = w.heap.size + 2 := (by rw [← hw2]; simp [hz1])
     have HN2 : Hid (Blk w2 w.heap.size 29 cs) := (by unfold Hid; rw [← hw2]; exact HN1.out.alloc _)
     have HZ2 : Hid (Blk w2 (w.heap.size + 1) 29 old) := (by unfold Hid; rw [← hw2]; exact Blk.new' hz1.symm)
     have HB2 : Hid (Below w.heap.size w w2) := (by unfold Hid; rw [← hw2]; exact HB1.out.alloc (by omega) _)
     have HOLD := Hi hold
     have c0 := yC HN2.out 0 HC0.out
     clear hw2 hold)
  | (refine wpList_newrow rfl rfl 29 rfl 3 rfl (.tmp 6) rfl rfl (Oqk2R5 t) (fun _ => rfl) (show 3 < 116 by decide) zer_op isz_29 (by simp [Value.oneCell']) ?_
     obtain ⟨w3, hw3⟩ := xa w2 (Oqk2R5 t) 29
     rw [hw3]
     have hz3 : w3.heap.size = w.heap.size + 3 := (by rw [← hw3]; simp [hz2])
     have HN3 : Hid (Blk w3 w.heap.size 29 cs) := (by unfold Hid; rw [← hw3]; exact HN2.out.alloc _)
     have HZ3 : Hid (Blk w3 (w.heap.size + 1) 29 old) := (by unfold Hid; rw [← hw3]; exact HZ2.out.alloc _)
     have HP3 : Hid (Blk w3 (w.heap.size + 2) 29 (Oqk2R5 t)) := (by unfold Hid; rw [← hw3]; exact Blk.new' hz2.symm)
     have HB3 : Hid (Below w.heap.size w w3) := (by unfold Hid; rw [← hw3]; exact HB2.out.alloc (by omega) _)
     have d0 := yC HN3.out 0 HC0.out
     have d1 := yC HN3.out 1 (by rw [HCS.out]; rfl : cs[1]? = some (.string f.p))
     clear hw3 c0 HN2 HZ2 HB2)
  | (with_reducible refine wpSt 41 ?_
     refine wpList_store_mid rfl 9 (.tmp 41) (.tmp 40) rfl (w.heap.size + 2) 1 (.string f.p) rfl rfl HP3.out (news := [.string f.p]) rfl isz_9 (by simp) (by simp [Value.oneCell']) ?_
     intro w4 cn hBn hxn hgn hzn
     have hz4 : w4.heap.size = w.heap.size + 3 := (by rw [hzn, hz3])
     have HN4 : Hid (Blk w4 w.heap.size 29 cs) := HN3.out.grown hgn (by simp)
     have HZ4 : Hid (Blk w4 (w.heap.size + 1) 29 old) := HZ3.out.grown hgn (by simp)
     have HP4 : Hid (Blk w4 (w.heap.size + 2) 29 (Oqk2R6 t f)) := (by
      have e : cn = (Oqk2R6 t f) := Array.ext' hxn
      unfold Hid; rw [← e]; exact hBn)
     have HB4 : Hid (Below w.heap.size w w4) := HB3.out.grown hgn (by omega) (fun k hk => by injection hk with hk; omega)
     have e0 := yC HN4.out 0 HC0.out
     clear d0 d1
     clear hBn hxn hgn hzn))
 have HROW : Hid (Blk w4 w.heap.size 29 (f.row d a k0 k1 k2 k3 k4 i s).toArray) := by unfold Hid; rw [← HCS.out]; exact HN4.out
 have HPS : Hid (((Oqk2R6 t f) : Array Value).size = 19) := rfl
 clear e0
 obtain ⟨x79, H79⟩ := xv (.pointer (some ⟨w.heap.size, 2, none⟩))
 obtain ⟨x80, H80⟩ := xv (.slice d.A d.n d.c)
 obtain ⟨x81, H81⟩ := xv (.pointer (some ⟨w.heap.size, 5, none⟩))
 obtain ⟨x82, H82⟩ := xv (.int .i32 f.ve)
 obtain ⟨x83, H83⟩ := xv (.pointer (some ⟨(w.heap.size + 2), 2, none⟩))
 obtain ⟨x84, H84⟩ := xv (.pointer (some ⟨(w.heap.size + 2), 5, none⟩))
 refine wp_region_copy (w0 := w4) (w.heap.size + 2) 29 [(2, .slice d.A d.n d.c), (5, .int .i32 f.ve)] (.inl x79 ::
  .inl x80 ::
  .inl x81 ::
  .inl x82 ::
  .inl x83 ::
  .inr (fun _ W => (∃ cur, Blk W (w.heap.size + 2) 29 cur) ∧ ∀ z9 u9, ([.slice d.A d.n d.c] : List Value)[z9]? = some u9 → W.cell? ⟨(w.heap.size + 2), 2 + z9, none⟩ = some u9) ::
  .inl x84 ::
  .inr (fun _ W => (∃ cur, Blk W (w.heap.size + 2) 29 cur) ∧ ∀ z9 u9, ([.int .i32 f.ve] : List Value)[z9]? = some u9 → W.cell? ⟨(w.heap.size + 2), 5 + z9, none⟩ = some u9) :: []) rfl (by kernel_rfl) (by kernel_rfl) (by kernel_rfl) (by kernel_rfl) ?_ ⟨fun ac W hC o q K hK => op_u (u := .pointer (some ⟨w.heap.size, 2, none⟩)) rfl (r_field 29 _ 2 rfl (yA (hO o 1)) zU29 rfl (n := 0) isz_22 rfl) (hK _ _ H79.out.symm (Cp.refl _)),
  fun ac W hC o q K hK => op_u (u := .slice d.A d.n d.c) rfl (r_load 22 _ rfl (yA (dL q 0 H79)) (yC (HROW.out.grown hC.grown (by simp)) 2 rfl) zU22 rfl) (hK _ _ H80.out.symm (Cp.refl _)),
  fun ac W hC o q K hK => op_u (u := .pointer (some ⟨w.heap.size, 5, none⟩)) rfl (r_field 29 _ 5 rfl (yA (hO o 1)) zU29 rfl (n := 0) isz_21 rfl) (hK _ _ H81.out.symm (Cp.refl _)),
  fun ac W hC o q K hK => op_u (u := .int .i32 f.ve) rfl (r_load 21 _ rfl (yA (dL q 2 H81)) (yC (HROW.out.grown hC.grown (by simp)) 5 rfl) zU21 rfl) (hK _ _ H82.out.symm (Cp.refl _)),
  fun ac W hC o q K hK => op_u (u := .pointer (some ⟨(w.heap.size + 2), 2, none⟩)) rfl (r_field 29 _ 2 rfl (yA (hO o 3)) zU29 rfl (n := 0) isz_22 rfl) (hK _ _ H83.out.symm (Cp.refl _)),
  by
   intro ac W hC hold hdep K hK
   obtain ⟨cur, hcur, hcs, _⟩ := hC.blk _ HP4.out
   exact op_store rfl 22 (.tmp 83) (.tmp 80) rfl 2 (.slice d.A d.n d.c) (yA (dL hdep 4 H83)) (yA (dL hdep 1 H80)) (news := [.slice d.A d.n d.c]) hcur rfl isz_22 (by rw [hcs, HPS.out]; exact (by decide : 2 + 1 ≤ 19)) (by simp [Value.oneCell']) (fun z9 u9 hu => by rcases z9 with _ | z9 <;> simp at hu; subst hu; simp) (fnB_of (by simp)) (fun w' h1 h2 => hK undef w' ⟨by obtain ⟨c2, h3, _⟩ := h2.blk _ hcur; exact ⟨c2, h3⟩, h1⟩ h2),
  fun ac W hC o q K hK => op_u (u := .pointer (some ⟨(w.heap.size + 2), 5, none⟩)) rfl (r_field 29 _ 5 rfl (yA (hO o 3)) zU29 rfl (n := 0) isz_21 rfl) (hK _ _ H84.out.symm (Cp.refl _)),
  by
   intro ac W hC hold hdep K hK
   obtain ⟨cur, hcur, hcs, _⟩ := hC.blk _ HP4.out
   exact op_store rfl 21 (.tmp 84) (.tmp 82) rfl 5 (.int .i32 f.ve) (yA (dL hdep 6 H84)) (yA (dL hdep 3 H82)) (news := [.int .i32 f.ve]) hcur rfl isz_21 (by rw [hcs, HPS.out]; exact (by decide : 5 + 1 ≤ 19)) (by simp [Value.oneCell']) (fun z9 u9 hu => by rcases z9 with _ | z9 <;> simp at hu; subst hu; simp) (fnB_of (by simp)) (fun w' h1 h2 => hK undef w' ⟨by obtain ⟨c2, h3, _⟩ := h2.blk _ hcur; exact ⟨c2, h3⟩, h1⟩ h2), trivial⟩ ?_
 · intro p hp v W W' h hC
   simp only [zH, reduceCtorEq, Sum.inr.injEq, zI, or_false, false_or] at hp
   rcases hp with rfl | rfl
   all_goals
    obtain ⟨⟨cur, h1⟩, h2⟩ := h
    obtain ⟨c2, h3, _⟩ := hC.blk _ h1
    refine ⟨⟨c2, h3⟩, fun z9 u9 hu => hC.keep h1 ?_ (h2 z9 u9 hu)⟩
    rcases z9 with _ | _ | _ | _ | _ | z9 <;> simp at hu <;> subst hu <;> simp
 intro wc hC
 simp only [FinC, Act.put, zD, zA, zB]
 rintro ⟨_, _, g0⟩ ⟨_, _, g1⟩
 clear H79 H80 H81 H82 H83 H84
 have HFO : ([(2, .slice d.A d.n d.c), (5, .int .i32 f.ve)] : List (Nat × Value)).foldl (fun ps x => ps.setIfInBounds x.1 x.2) (Oqk2R6 t f) = (Oqk2R2 t f d) := by kernel_rfl
 have HPC : Hid (Blk wc (w.heap.size + 2) 29 (Oqk2R2 t f d)) := by
  unfold Hid
  rw [← HFO]
  refine hC.done HP4.out (fnB_of (by simp)) (fun k v hkv => ?_) (fun k v hkv => ?_)
  · simp only [zH, Prod.mk.injEq, zI, or_false] at hkv
    have : k ≤ 18 := by omega
    exact Nat.lt_of_le_of_lt this (by decide : 18 < 19)
  · simp only [zH, Prod.mk.injEq, zI, or_false] at hkv
    rcases hkv with ⟨rfl, rfl⟩ | ⟨rfl, rfl⟩
    · exact g0 0 _ rfl
    · exact g1 0 _ rfl
 have HZC : Hid (Blk wc (w.heap.size + 1) 29 old) := HZ4.out.grown hC.grown (by simp)
 have HBC : Hid (Below w.heap.size w wc) := HB4.out.grown hC.grown (by omega) (fun k hk => by injection hk with hk; omega)
 have hzc : wc.heap.size = w.heap.size + 3 := by rw [hC.size, hz4]
 clear hC HFO g0 g1
 go_wp2_with (first
  | (with_reducible refine wpAq 115 ?_
     refine wpList_load_row rfl 29 (.tmp 3) rfl (w.heap.size + 2) rfl 29 _ _ _ HPC.out zU29 rfl isz_29 ?_)
  | (with_reducible refine wpSt 2 ?_
     refine wpList_store_row rfl 29 (.tmp 2) (.tmp 115) rfl (w.heap.size + 1) (Oqk2R2 t f d) rfl rfl 29 _ HZC.out isz_29 (by rw [HOLD.out]; rfl) (by simp [Value.oneCell']) ?_
     generalize hww : World.setRow _ _ _ = wz
     have HBZ : Hid (Blk wz (w.heap.size + 1) 29 (Oqk2R2 t f d)) := (by unfold Hid; rw [← hww]; exact cells_setRow HZC.out)
     have HBB : Hid (Below w.heap.size w wz) := (by unfold Hid; rw [← hww]; exact below_setRow' HBC.out (by omega) _)
     clear hww))
 refine bodyPost_ret (results_cell_row rfl _ _ (w.heap.size + 1) 29 _ _ _ rfl HBZ.out zU29 rfl isz_29) rfl ?_
 exact ⟨rfl, HBB.out⟩
theorem kept_g5 (t : Int) (htt : t ∈ ([120] : List Int)) (f : OpF) (d a k0 k1 k2 k3 k4 i s : Sl) (w : World) (ht : f.t = t) : Calls Tryd.prog 78 #[.agg (f.row d a k0 k1 k2 k3 k4 i s).toArray] w fun e w' => e = .returned (.agg (keptRow f d a k0 k1 k2 k3 k4 i s).toArray) ∧ Below w.heap.size w w' := by
 have HE : Hid ((keptRow f d a k0 k1 k2 k3 k4 i s).toArray = (Oqk2R1 t f)) := by
  unfold Hid keptRow keptF kS
  rw [ht]
  simp only [zH, zI, or_false] at htt
  rcases htt with rfl <;> simp [tP, tD, tA, tF, tV, tW, tC, tL, tZ, tT, tS, OpF.row, Sl.v, nilS]
 rw [HE.out]
 obtain ⟨cs, hcs⟩ : ∃ cs : Array Value, cs = (f.row d a k0 k1 k2 k3 k4 i s).toArray := ⟨_, rfl⟩
 rw [← hcs]
 have hc0 : cs[0]? = some (.int .i32 t) := by rw [hcs, ← ht]; rfl
 have HC0 := Hi hc0
 have HCS := Hi hcs
 obtain ⟨w1, hw1⟩ := xa w cs 29
 have hz1 : w1.heap.size = w.heap.size + 1 := by rw [← hw1]; simp
 have HN1 := Hi (zW hw1)
 have HB1 := Hi (zV hw1)
 clear hc0 hcs ht HE
 obtain ⟨n0, n1, n2, n3, n4, n5, n6, n7, n8, n9, n10, n11, n12, n13, n14, n15, n16, n17, n18, n19, n20, _⟩ := sw_all (cs := [14, 22, 101, (-10), (-11), 11, 107, 1, 15, 19, 21, 2, 13, 5, 7, 3, 4, 8, 12, 106, 18]) htt rfl
 have S : ((t == 120) = true) := by
  simp only [zH, zI, or_false] at htt
  rcases htt with rfl <;> decide
 clear htt
 go_enter Tryd.func78, Tryd.ntmps78
 go_wp2_with (first
  | (refine wpList_new rfl 29 rfl zer_op ?_
     intro old hold
     obtain ⟨w2, hw2⟩ := xa w1 old 29
     rw [hw2]
     have hz2 : w2.heap.size = w.heap.size + 2 := (by rw [← hw2]; simp [hz1])
     have HN2 : Hid (Blk w2 w.heap.size 29 cs) := (by unfold Hid; rw [← hw2]; exact HN1.out.alloc _)
     have HZ2 : Hid (Blk w2 (w.heap.size + 1) 29 old) := (by unfold Hid; rw [← hw2]; exact Blk.new' hz1.symm)
     have HB2 : Hid (Below w.heap.size w w2) := (by unfold Hid; rw [← hw2]; exact HB1.out.alloc (by omega) _)
     have HOLD := Hi hold
     have c0 := yC HN2.out 0 HC0.out
     clear hw2 hold)
  | (refine wpList_newrow rfl rfl 29 rfl 3 rfl (.tmp 6) rfl rfl (Oqk2R5 t) (fun _ => rfl) (show 3 < 116 by decide) zer_op isz_29 (by simp [Value.oneCell']) ?_
     obtain ⟨w3, hw3⟩ := xa w2 (Oqk2R5 t) 29
     rw [hw3]
     have hz3 : w3.heap.size = w.heap.size + 3 := (by rw [← hw3]; simp [hz2])
     have HN3 : Hid (Blk w3 w.heap.size 29 cs) := (by unfold Hid; rw [← hw3]; exact HN2.out.alloc _)
     have HZ3 : Hid (Blk w3 (w.heap.size + 1) 29 old) := (by unfold Hid; rw [← hw3]; exact HZ2.out.alloc _)
     have HP3 : Hid (Blk w3 (w.heap.size + 2) 29 (Oqk2R5 t)) := (by unfold Hid; rw [← hw3]; exact Blk.new' hz2.symm)
     have HB3 : Hid (Below w.heap.size w w3) := (by unfold Hid; rw [← hw3]; exact HB2.out.alloc (by omega) _)
     have d0 := yC HN3.out 0 HC0.out
     have d1 := yC HN3.out 1 (by rw [HCS.out]; rfl : cs[1]? = some (.string f.p))
     clear hw3 c0 HN2 HZ2 HB2)
  | (with_reducible refine wpSt 41 ?_
     refine wpList_store_mid rfl 9 (.tmp 41) (.tmp 40) rfl (w.heap.size + 2) 1 (.string f.p) rfl rfl HP3.out (news := [.string f.p]) rfl isz_9 (by simp) (by simp [Value.oneCell']) ?_
     intro w4 cn hBn hxn hgn hzn
     have hz4 : w4.heap.size = w.heap.size + 3 := (by rw [hzn, hz3])
     have HN4 : Hid (Blk w4 w.heap.size 29 cs) := HN3.out.grown hgn (by simp)
     have HZ4 : Hid (Blk w4 (w.heap.size + 1) 29 old) := HZ3.out.grown hgn (by simp)
     have HP4 : Hid (Blk w4 (w.heap.size + 2) 29 (Oqk2R6 t f)) := (by
      have e : cn = (Oqk2R6 t f) := Array.ext' hxn
      unfold Hid; rw [← e]; exact hBn)
     have HB4 : Hid (Below w.heap.size w w4) := HB3.out.grown hgn (by omega) (fun k hk => by injection hk with hk; omega)
     have e0 := yC HN4.out 0 HC0.out
     clear d0 d1
     clear hBn hxn hgn hzn))
 have HROW : Hid (Blk w4 w.heap.size 29 (f.row d a k0 k1 k2 k3 k4 i s).toArray) := by unfold Hid; rw [← HCS.out]; exact HN4.out
 have HPS : Hid (((Oqk2R6 t f) : Array Value).size = 19) := rfl
 clear e0
 obtain ⟨x95, H95⟩ := xv (.pointer (some ⟨w.heap.size, 7, none⟩))
 obtain ⟨x96, H96⟩ := xv (.int .i64 f.ct)
 obtain ⟨x97, H97⟩ := xv (.pointer (some ⟨w.heap.size, 8, none⟩))
 obtain ⟨x98, H98⟩ := xv (.int .i64 f.by_)
 obtain ⟨x99, H99⟩ := xv (.pointer (some ⟨(w.heap.size + 2), 7, none⟩))
 obtain ⟨x100, H100⟩ := xv (.pointer (some ⟨(w.heap.size + 2), 8, none⟩))
 refine wp_region_copy (w0 := w4) (w.heap.size + 2) 29 [(7, .int .i64 f.ct), (8, .int .i64 f.by_)] (.inl x95 ::
  .inl x96 ::
  .inl x97 ::
  .inl x98 ::
  .inl x99 ::
  .inr (fun _ W => (∃ cur, Blk W (w.heap.size + 2) 29 cur) ∧ ∀ z9 u9, ([.int .i64 f.ct] : List Value)[z9]? = some u9 → W.cell? ⟨(w.heap.size + 2), 7 + z9, none⟩ = some u9) ::
  .inl x100 ::
  .inr (fun _ W => (∃ cur, Blk W (w.heap.size + 2) 29 cur) ∧ ∀ z9 u9, ([.int .i64 f.by_] : List Value)[z9]? = some u9 → W.cell? ⟨(w.heap.size + 2), 8 + z9, none⟩ = some u9) :: []) rfl (by kernel_rfl) (by kernel_rfl) (by kernel_rfl) (by kernel_rfl) ?_ ⟨fun ac W hC o q K hK => op_u (u := .pointer (some ⟨w.heap.size, 7, none⟩)) rfl (r_field 29 _ 7 rfl (yA (hO o 1)) zU29 rfl (n := 0) isz_2 rfl) (hK _ _ H95.out.symm (Cp.refl _)),
  fun ac W hC o q K hK => op_u (u := .int .i64 f.ct) rfl (r_load 2 _ rfl (yA (dL q 0 H95)) (yC (HROW.out.grown hC.grown (by simp)) 7 rfl) zU2 rfl) (hK _ _ H96.out.symm (Cp.refl _)),
  fun ac W hC o q K hK => op_u (u := .pointer (some ⟨w.heap.size, 8, none⟩)) rfl (r_field 29 _ 8 rfl (yA (hO o 1)) zU29 rfl (n := 0) isz_2 rfl) (hK _ _ H97.out.symm (Cp.refl _)),
  fun ac W hC o q K hK => op_u (u := .int .i64 f.by_) rfl (r_load 2 _ rfl (yA (dL q 2 H97)) (yC (HROW.out.grown hC.grown (by simp)) 8 rfl) zU2 rfl) (hK _ _ H98.out.symm (Cp.refl _)),
  fun ac W hC o q K hK => op_u (u := .pointer (some ⟨(w.heap.size + 2), 7, none⟩)) rfl (r_field 29 _ 7 rfl (yA (hO o 3)) zU29 rfl (n := 0) isz_2 rfl) (hK _ _ H99.out.symm (Cp.refl _)),
  by
   intro ac W hC hold hdep K hK
   obtain ⟨cur, hcur, hcs, _⟩ := hC.blk _ HP4.out
   exact op_store rfl 2 (.tmp 99) (.tmp 96) rfl 7 (.int .i64 f.ct) (yA (dL hdep 4 H99)) (yA (dL hdep 1 H96)) (news := [.int .i64 f.ct]) hcur rfl isz_2 (by rw [hcs, HPS.out]; exact (by decide : 7 + 1 ≤ 19)) (by simp [Value.oneCell']) (fun z9 u9 hu => by rcases z9 with _ | z9 <;> simp at hu; subst hu; simp) (fnB_of (by simp)) (fun w' h1 h2 => hK undef w' ⟨by obtain ⟨c2, h3, _⟩ := h2.blk _ hcur; exact ⟨c2, h3⟩, h1⟩ h2),
  fun ac W hC o q K hK => op_u (u := .pointer (some ⟨(w.heap.size + 2), 8, none⟩)) rfl (r_field 29 _ 8 rfl (yA (hO o 3)) zU29 rfl (n := 0) isz_2 rfl) (hK _ _ H100.out.symm (Cp.refl _)),
  by
   intro ac W hC hold hdep K hK
   obtain ⟨cur, hcur, hcs, _⟩ := hC.blk _ HP4.out
   exact op_store rfl 2 (.tmp 100) (.tmp 98) rfl 8 (.int .i64 f.by_) (yA (dL hdep 6 H100)) (yA (dL hdep 3 H98)) (news := [.int .i64 f.by_]) hcur rfl isz_2 (by rw [hcs, HPS.out]; exact (by decide : 8 + 1 ≤ 19)) (by simp [Value.oneCell']) (fun z9 u9 hu => by rcases z9 with _ | z9 <;> simp at hu; subst hu; simp) (fnB_of (by simp)) (fun w' h1 h2 => hK undef w' ⟨by obtain ⟨c2, h3, _⟩ := h2.blk _ hcur; exact ⟨c2, h3⟩, h1⟩ h2), trivial⟩ ?_
 · intro p hp v W W' h hC
   simp only [zH, reduceCtorEq, Sum.inr.injEq, zI, or_false, false_or] at hp
   rcases hp with rfl | rfl
   all_goals
    obtain ⟨⟨cur, h1⟩, h2⟩ := h
    obtain ⟨c2, h3, _⟩ := hC.blk _ h1
    refine ⟨⟨c2, h3⟩, fun z9 u9 hu => hC.keep h1 ?_ (h2 z9 u9 hu)⟩
    rcases z9 with _ | _ | _ | _ | _ | z9 <;> simp at hu <;> subst hu <;> simp
 intro wc hC
 simp only [FinC, Act.put, zD, zA, zB]
 rintro ⟨_, _, g0⟩ ⟨_, _, g1⟩
 clear H95 H96 H97 H98 H99 H100
 have HFO : ([(7, .int .i64 f.ct), (8, .int .i64 f.by_)] : List (Nat × Value)).foldl (fun ps x => ps.setIfInBounds x.1 x.2) (Oqk2R6 t f) = (Oqk2R1 t f) := by kernel_rfl
 have HPC : Hid (Blk wc (w.heap.size + 2) 29 (Oqk2R1 t f)) := by
  unfold Hid
  rw [← HFO]
  refine hC.done HP4.out (fnB_of (by simp)) (fun k v hkv => ?_) (fun k v hkv => ?_)
  · simp only [zH, Prod.mk.injEq, zI, or_false] at hkv
    have : k ≤ 18 := by omega
    exact Nat.lt_of_le_of_lt this (by decide : 18 < 19)
  · simp only [zH, Prod.mk.injEq, zI, or_false] at hkv
    rcases hkv with ⟨rfl, rfl⟩ | ⟨rfl, rfl⟩
    · exact g0 0 _ rfl
    · exact g1 0 _ rfl
 have HZC : Hid (Blk wc (w.heap.size + 1) 29 old) := HZ4.out.grown hC.grown (by simp)
 have HBC : Hid (Below w.heap.size w wc) := HB4.out.grown hC.grown (by omega) (fun k hk => by injection hk with hk; omega)
 have hzc : wc.heap.size = w.heap.size + 3 := by rw [hC.size, hz4]
 clear hC HFO g0 g1
 go_wp2_with (first
  | (with_reducible refine wpAq 115 ?_
     refine wpList_load_row rfl 29 (.tmp 3) rfl (w.heap.size + 2) rfl 29 _ _ _ HPC.out zU29 rfl isz_29 ?_)
  | (with_reducible refine wpSt 2 ?_
     refine wpList_store_row rfl 29 (.tmp 2) (.tmp 115) rfl (w.heap.size + 1) (Oqk2R1 t f) rfl rfl 29 _ HZC.out isz_29 (by rw [HOLD.out]; rfl) (by simp [Value.oneCell']) ?_
     generalize hww : World.setRow _ _ _ = wz
     have HBZ : Hid (Blk wz (w.heap.size + 1) 29 (Oqk2R1 t f)) := (by unfold Hid; rw [← hww]; exact cells_setRow HZC.out)
     have HBB : Hid (Below w.heap.size w wz) := (by unfold Hid; rw [← hww]; exact below_setRow' HBC.out (by omega) _)
     clear hww))
 refine bodyPost_ret (results_cell_row rfl _ _ (w.heap.size + 1) 29 _ _ _ rfl HBZ.out zU29 rfl isz_29) rfl ?_
 exact ⟨rfl, HBB.out⟩
theorem kept_g8 (t : Int) (htt : t ∈ ([106, 18] : List Int)) (f : OpF) (d a k0 k1 k2 k3 k4 i s : Sl) (w : World) (ht : f.t = t) : Calls Tryd.prog 78 #[.agg (f.row d a k0 k1 k2 k3 k4 i s).toArray] w fun e w' => e = .returned (.agg (keptRow f d a k0 k1 k2 k3 k4 i s).toArray) ∧ Below w.heap.size w w' := by
 have HE : Hid ((keptRow f d a k0 k1 k2 k3 k4 i s).toArray = (Oqk2R4 t f)) := by
  unfold Hid keptRow keptF kS
  rw [ht]
  simp only [zH, zI, or_false] at htt
  rcases htt with rfl | rfl <;> simp [tP, tD, tA, tF, tV, tW, tC, tL, tZ, tT, tS, OpF.row, Sl.v, nilS]
 rw [HE.out]
 obtain ⟨cs, hcs⟩ : ∃ cs : Array Value, cs = (f.row d a k0 k1 k2 k3 k4 i s).toArray := ⟨_, rfl⟩
 rw [← hcs]
 have hc0 : cs[0]? = some (.int .i32 t) := by rw [hcs, ← ht]; rfl
 have HC0 := Hi hc0
 have HCS := Hi hcs
 obtain ⟨w1, hw1⟩ := xa w cs 29
 have hz1 : w1.heap.size = w.heap.size + 1 := by rw [← hw1]; simp
 have HN1 := Hi (zW hw1)
 have HB1 := Hi (zV hw1)
 clear hc0 hcs ht HE
 obtain ⟨n0, n1, n2, n3, n4, n5, n6, n7, n8, n9, n10, n11, n12, n13, n14, n15, n16, n17, n18, n19, _⟩ := sw_all (cs := [14, 22, 101, (-10), (-11), 11, 107, 1, 15, 19, 21, 2, 13, 5, 7, 120, 3, 4, 8, 12]) htt rfl
 have S : ((t == 106) = true) ∨ ((t == 106) = false ∧ (t == 18) = true) := by
  simp only [zH, zI, or_false] at htt
  rcases htt with rfl | rfl <;> decide
 clear htt
 rcases S with s0 | ⟨s0, s1⟩
 all_goals
  go_enter Tryd.func78, Tryd.ntmps78
  go_wp2_with (first
   | (refine wpList_new rfl 29 rfl zer_op ?_
      intro old hold
      obtain ⟨w2, hw2⟩ := xa w1 old 29
      rw [hw2]
      have hz2 : w2.heap.size = w.heap.size + 2 := (by rw [← hw2]; simp [hz1])
      have HN2 : Hid (Blk w2 w.heap.size 29 cs) := (by unfold Hid; rw [← hw2]; exact HN1.out.alloc _)
      have HZ2 : Hid (Blk w2 (w.heap.size + 1) 29 old) := (by unfold Hid; rw [← hw2]; exact Blk.new' hz1.symm)
      have HB2 : Hid (Below w.heap.size w w2) := (by unfold Hid; rw [← hw2]; exact HB1.out.alloc (by omega) _)
      have HOLD := Hi hold
      have c0 := yC HN2.out 0 HC0.out
      clear hw2 hold)
   | (refine wpList_newrow rfl rfl 29 rfl 3 rfl (.tmp 6) rfl rfl (Oqk2R5 t) (fun _ => rfl) (show 3 < 116 by decide) zer_op isz_29 (by simp [Value.oneCell']) ?_
      obtain ⟨w3, hw3⟩ := xa w2 (Oqk2R5 t) 29
      rw [hw3]
      have hz3 : w3.heap.size = w.heap.size + 3 := (by rw [← hw3]; simp [hz2])
      have HN3 : Hid (Blk w3 w.heap.size 29 cs) := (by unfold Hid; rw [← hw3]; exact HN2.out.alloc _)
      have HZ3 : Hid (Blk w3 (w.heap.size + 1) 29 old) := (by unfold Hid; rw [← hw3]; exact HZ2.out.alloc _)
      have HP3 : Hid (Blk w3 (w.heap.size + 2) 29 (Oqk2R5 t)) := (by unfold Hid; rw [← hw3]; exact Blk.new' hz2.symm)
      have HB3 : Hid (Below w.heap.size w w3) := (by unfold Hid; rw [← hw3]; exact HB2.out.alloc (by omega) _)
      have d0 := yC HN3.out 0 HC0.out
      have d1 := yC HN3.out 1 (by rw [HCS.out]; rfl : cs[1]? = some (.string f.p))
      clear hw3 c0 HN2 HZ2 HB2)
   | (with_reducible refine wpSt 41 ?_
      refine wpList_store_mid rfl 9 (.tmp 41) (.tmp 40) rfl (w.heap.size + 2) 1 (.string f.p) rfl rfl HP3.out (news := [.string f.p]) rfl isz_9 (by simp) (by simp [Value.oneCell']) ?_
      intro w4 cn hBn hxn hgn hzn
      have hz4 : w4.heap.size = w.heap.size + 3 := (by rw [hzn, hz3])
      have HN4 : Hid (Blk w4 w.heap.size 29 cs) := HN3.out.grown hgn (by simp)
      have HZ4 : Hid (Blk w4 (w.heap.size + 1) 29 old) := HZ3.out.grown hgn (by simp)
      have HP4 : Hid (Blk w4 (w.heap.size + 2) 29 (Oqk2R6 t f)) := (by
       have e : cn = (Oqk2R6 t f) := Array.ext' hxn
       unfold Hid; rw [← e]; exact hBn)
      have HB4 : Hid (Below w.heap.size w w4) := HB3.out.grown hgn (by omega) (fun k hk => by injection hk with hk; omega)
      have e0 := yC HN4.out 0 HC0.out
      have e4 := yC HN4.out 4 (by rw [HCS.out]; rfl : cs[4]? = some (.int .i32 f.fl))
      clear d0 d1
      clear hBn hxn hgn hzn)
   | (with_reducible refine wpSt 114 ?_
      refine wpList_store_mid rfl 21 (.tmp 114) (.tmp 113) rfl (w.heap.size + 2) 4 (.int .i32 f.fl) rfl rfl HP4.out (news := [.int .i32 f.fl]) rfl isz_21 (by simp) (by simp [Value.oneCell']) ?_
      intro w5 cn hBn hxn hgn hzn
      have hz5 : w5.heap.size = w.heap.size + 3 := (by rw [hzn, hz4])
      have HN5 : Hid (Blk w5 w.heap.size 29 cs) := HN4.out.grown hgn (by simp)
      have HZ5 : Hid (Blk w5 (w.heap.size + 1) 29 old) := HZ4.out.grown hgn (by simp)
      have HP5 : Hid (Blk w5 (w.heap.size + 2) 29 (Oqk2R4 t f)) := (by
       have e : cn = (Oqk2R4 t f) := Array.ext' hxn
       unfold Hid; rw [← e]; exact hBn)
      have HB5 : Hid (Below w.heap.size w w5) := HB4.out.grown hgn (by omega) (fun k hk => by injection hk with hk; omega)
      clear hBn hxn hgn hzn)
   | (with_reducible refine wpAq 115 ?_
      refine wpList_load_row rfl 29 (.tmp 3) rfl (w.heap.size + 2) rfl 29 _ _ _ HP5.out zU29 rfl isz_29 ?_)
   | (with_reducible refine wpSt 2 ?_
      refine wpList_store_row rfl 29 (.tmp 2) (.tmp 115) rfl (w.heap.size + 1) (Oqk2R4 t f) rfl rfl 29 _ HZ5.out isz_29 (by rw [HOLD.out]; rfl) (by simp [Value.oneCell']) ?_
      generalize hww : World.setRow _ _ _ = wz
      have HBZ : Hid (Blk wz (w.heap.size + 1) 29 (Oqk2R4 t f)) := (by unfold Hid; rw [← hww]; exact cells_setRow HZ5.out)
      have HBB : Hid (Below w.heap.size w wz) := (by unfold Hid; rw [← hww]; exact below_setRow' HB5.out (by omega) _)
      clear hww))
  refine bodyPost_ret (results_cell_row rfl _ _ (w.heap.size + 1) 29 _ _ _ rfl HBZ.out zU29 rfl isz_29) rfl ?_
  exact ⟨rfl, HBB.out⟩
end Go.Proofs.YtpjjnmdfgcfnmaaDoor
