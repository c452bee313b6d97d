/- What must be so of any program that has this layer, with no other operations' types than the example's. -/
import Derived.Test.YtpjjnmdfgcfnmaaGreatDoorOq31
import Derived.Test.YtpjjnmdfgcfnmaaGreatDoorOh9
import Derived.Test.YtpjjnmdfgcfnmaaGreatDoorOpn
set_option linter.unusedVariables false
set_option linter.unusedSimpArgs false
namespace Go.Proofs.YtpjjnmdfgcfnmaaGreatDoor
open Go.RowKit

set_option maxRecDepth 100000 in
set_option maxHeartbeats 4000000 in
theorem all_one {w0 : World} {lo : Option Nat} {xs : List Value} (h : At w0 lo aliveX xs) (E : Env w0) : ∀ (w : World), Below w0.heap.size w0 w → Calls Tryz.prog 33 #[.agg xs.toArray] w fun e w' => e = .returned (.int .i64 aliveX.allE) ∧ Below w.heap.size w w' := by
  intro w hb0
  rw [alive_all]
  unfold aliveX at h
  obtain ⟨X, hX⟩ : ∃ X : OpC, X = .mk aliveF [] := ⟨_, rfl⟩
  rw [← hX] at h
  cases h with
  | mk f d a k0 k1 k2 k3 k4 i s Q ok hd ha hk0 hk1 hk2 hk3 hk4 hi hs hQ =>
    injection hX with hf hq
    subst hf
    obtain rfl : Q = [] := List.map_eq_nil_iff.1 hq
    have hsn : s.n = 0 := hs.len.symm
    obtain ⟨A, N, c⟩ := s
    dsimp only at hsn
    subst hsn
    have hfs := OpF.sums (f := aliveF) (by decide)
    obtain ⟨cs, hcs⟩ : ∃ cs : Array Value, cs = (aliveF.row d a k0 k1 k2 k3 k4 i ⟨A, 0, c⟩).toArray := ⟨_, rfl⟩
    have HOWN : Hid (∀ W, Below w0.heap.size w0 W → Calls Tryz.prog 71 #[.agg cs] W fun e w' => e = .returned (.int .i64 0) ∧ Below W.heap.size W w') := fun W hW => by
      have := own_of aliveF d a k0 k1 k2 k3 k4 i ⟨A, 0, c⟩ W ((⟨hd, ha, hk0, hk1, hk2, hk3, hk4, hi⟩ : FAt w0 lo aliveF d a k0 k1 k2 k3 k4 i).later hW) (hs.later hW) ok (E.below hW) hfs.1 hfs.2 (fun _ W => kept_g2 2 (by decide) aliveF d a k0 k1 k2 k3 k4 i _ W rfl) cs hcs
      rwa [alive_own] at this
    rw [← hcs]
    have HI19 : Hid ((Tryz.prog.info? 29).map (·.size) = some cs.size) := by unfold Hid; rw [hcs]; exact isz_29
    have HC18 : Hid (cs[18]? = some (.slice A 0 c)) := by unfold Hid; rw [hcs]; rfl
    obtain ⟨w1, hw1⟩ : ∃ w1, w.alloc (.cells cs 29) = w1 := ⟨_, rfl⟩
    have HB1 := Lib.hid (newB hw1)
    have HN1 := Lib.hid (newK hw1)
    have HBO : Hid (Below w0.heap.size w0 w1) := hb0.trans (HB1.out.mono hb0.size)
    have c18 := blk_cell HN1.out 18 HC18.out
    clear hcs hs hd ha hk0 hk1 hk2 hk3 hk4 hi hQ ok hb0 hq hfs E
    go_enter Tryz.func33, Tryz.ntmps33
    go_wp2_with (first
        | (refine wpList_load_row rfl 29 (.tmp 1) rfl w.heap.size rfl 29 _ _ _ HN1.out Tryz.underlying29 rfl HI19.out ?_)
        | (go_at_call 71
           refine (HOWN.out _ HBO.out).mono ?_
           rintro e w2 ⟨rfl, hb⟩
           have HB2 : Hid (Below w1.heap.size w1 w2) := hb
           have d18 := blk_cell (HN1.out.below hb HN1.out.lt) 18 HC18.out
           clear c18))
    clear d18
    refine wp_loop_rounds 1 ?_
    rw [rounds_succ]
    go_wp2
    go_ret
    exact ⟨rfl, HB1.out.trans (HB2.out.mono HB1.out.size)⟩
theorem right_one {w : World} {lo : Option Nat} {xs : List Value} (h : At w lo aliveX xs) (E : Env w) :
    Calls Tryz.prog 13 #[.agg xs.toArray] w fun e w' => e = .returned (.int .i64 aliveX.rightE) ∧ Below w.heap.size w w' := right_of h alive_bulk fun W hW => all_one h E W hW
theorem put_one {w0 : World} {lo : Option Nat} {xs : List Value} (h : At w0 lo aliveX xs) : ∀ (w : World) (base g : Nat) (v : Value) (l : List UInt8), w0.heap.size ≤ base → base ≤ g → Below w0.heap.size w0 w → Wr w base g v l → base ≤ w.heap.size → l.length + aliveX.putB.length + 64 ≤ 140737488355328 →
    Calls Tryz.prog 23 #[.pointer (some ⟨g, 0, none⟩), .agg xs.toArray] w fun e w' => e = .returned (.tuple #[]) ∧ ∃ v', Wrote base g v v' l aliveX.putB w w' := by
  unfold aliveX at h ⊢
  obtain ⟨X, hX⟩ : ∃ X : OpC, X = .mk aliveF [] := ⟨_, rfl⟩
  rw [← hX] at h ⊢
  cases h with
  | mk f d a k0 k1 k2 k3 k4 i s Q ok hd ha hk0 hk1 hk2 hk3 hk4 hi hs hQ =>
    injection hX with hf hq
    subst hf
    intro w base g v l hw hg hb0 hv hbase hsz
    rw [OpC.putB, if_neg (by decide)] at hsz ⊢
    exact put_g2 2 (by decide) aliveF d a k0 k1 k2 k3 k4 i s base g v l rfl ⟨hd, ha, hk0, hk1, hk2, hk3, hk4, hi⟩ hw hg hb0 hv hbase hsz
theorem alive_one (w : World) (E : Env w) : Calls Tryz.prog 9 #[] w fun e w' => e = .returned (.bool true) ∧ Below w.heap.size w w' := alive_of w E right_one put_one
end Go.Proofs.YtpjjnmdfgcfnmaaGreatDoor
/- OpsDecodes: the walk. (printed by gen_d1.py) -/
namespace Go.Proofs.YtpjjnmdfgcfnmaaGreatDoor
open Go.RowKit

theorem zer_reqO : ((Tryz.prog.info? 44).bind (·.zero)).map (·.cells.size) = some 20 := by kernel_rfl
/-- what is told of bytes: the request or none, the place, the error -/
def decV (l : List UInt8) : (Int × OpC) × (Int × Int) := match decO l with
  | .inl (q, E) => ((0, .mk (zF 0) []), (q, E))
  | .inr y => (y, (0, 0))
def DecV (l : List UInt8) (w : World) (e : Ending) (w' : World) : Prop := Below w.heap.size w w' ∧ ∃ cs : List Value, e = .returned (.tuple #[.agg (Value.int .i32 (decV l).1.1 :: cs).toArray, .int .i64 (decV l).2.1, .int .i64 (decV l).2.2]) ∧ At w' none (decV l).1.2 cs
theorem decV_of {l : List UInt8} {w w' : World} {e : Ending} (h : Decoded l w e w') : DecV l w e w' := by
  obtain ⟨hb, h⟩ := h
  refine ⟨hb, ?_⟩
  unfold decV
  rcases hd : decO l with ⟨q, E⟩ | ⟨z, x⟩
  · rw [hd] at h
    obtain ⟨_, _, h⟩ := h
    refine ⟨(zF 0).row nilS nilS nilS nilS nilS nilS nilS nilS nilS, h, ?_⟩
    have ha : At w' (some 0) (.mk (zF 0) []) ((zF 0).row nilS nilS nilS nilS nilS nilS nilS nilS nilS) := .mk (zF 0) nilS nilS nilS nilS nilS nilS nilS nilS nilS [] (zF_ok rfl) (SlAt.zero _ _ _ _ _) (SlAt.zero _ _ _ _ _) (SlAt.zero _ _ _ _ _) (SlAt.zero _ _ _ _ _) (SlAt.zero _ _ _ _ _) (SlAt.zero _ _ _ _ _) (SlAt.zero _ _ _ _ _) (SlAt.zero _ _ _ _ _) (SlAt.zero _ _ _ _ _) (fun _ h => by cases h)
    exact ha.any
  · rw [hd] at h
    obtain ⟨cs, h1, h2⟩ := h
    exact ⟨cs, h1, h2.any⟩
theorem row_tail {w : World} {g : Nat} {t : TypeId} {z : Value} {cs : List Value} (h : Blk w g t (z :: cs).toArray) : ∀ j v, cs[j]? = some v → w.cell? ((⟨g, 1, none⟩ : Addr).add j) = some v := fun j v hv => by
  rw [Go.WideShapes.add_plain, Nat.add_comm]
  exact blk_cell h (j + 1) (by simpa using hv)
set_option maxRecDepth 100000 in
set_option maxHeartbeats 16000000 in
theorem decodesLaw_walk {w : World} {A : Option Addr} {n c : Nat} {l : List UInt8} (hr : Reads w w.heap.size 1 A n (bcells l)) (hln : l.length = n) (hnc : n ≤ c) (hcm : c ≤ maxLen) (hn : n ≤ reachBytes) (hnil : A = none → n = 0 ∧ c = 0) (E : Env w) :
    Calls Tryz.prog 6 #[.slice A n c] w fun e w' => e = .returned (.bool true) ∧ Below w.heap.size w w' := by
  have hn2 : n ≤ 140737488355328 := by unfold reachBytes at hn; omega
  have hnm : n ≤ maxLen := Nat.le_trans hnc hcm
  obtain ⟨i0, hi0, hz0, hzi1, hzi2⟩ := info_parts u8_info
  have HAL : Hid (∀ W, Below w.heap.size w W → Calls Tryz.prog 9 #[] W fun e w' => e = .returned (.bool true) ∧ Below W.heap.size W w') := fun W hW => alive_one W (E.below hW)
  obtain ⟨w1, hw1⟩ : ∃ v, w.alloc (.cells #[] 5) = v := ⟨_, rfl⟩
  have HB1 := Lib.hid (newB hw1)
  have HOW : Hid (w1.ownsRow w.heap.size 5 1 (.slice (some ⟨w.heap.size, 0, none⟩) 0 0) 0 []) := by unfold Hid; rw [← hw1]; exact World.ownsRow_made w #[] 0 (Nat.le_refl _) (by decide) rfl
  have HRD : Hid (∀ W, Below w.heap.size w W → Reads W w.heap.size 1 A n (bcells l)) := fun W hW => hr.below hW
  have HEN := Lib.hid (fun W (hW : Below w.heap.size w W) => E.below hW)
  have HLN := Lib.hid hln
  have HNC := Lib.hid hnc
  have HNIL := Lib.hid hnil
  obtain ⟨zz, hzz⟩ : ∃ z, z = (decV l).1.1 := ⟨_, rfl⟩
  obtain ⟨x, hx⟩ : ∃ z, z = (decV l).1.2 := ⟨_, rfl⟩
  obtain ⟨qq, hqq⟩ : ∃ z, z = (decV l).2.1 := ⟨_, rfl⟩
  obtain ⟨ee, hee⟩ : ∃ z, z = (decV l).2.2 := ⟨_, rfl⟩
  have HD1 : Hid (∀ W A' c', Below w.heap.size w W → Reads W W.heap.size 1 A' n (bcells l) → n ≤ c' → (A' = none → c' = 0) → Calls Tryz.prog 27 #[.slice A' n c'] W fun e w' => Below W.heap.size W w' ∧ ∃ cs : List Value, e = .returned (.tuple #[.agg (Value.int .i32 zz :: cs).toArray, .int .i64 qq, .int .i64 ee]) ∧ At w' none x cs) := fun W A' c' hW h1 h2 h3 => by
    rw [hzz, hx, hqq, hee]
    exact (opDecode_any c' n A' l W h1 h2 hn2 h3 (E.below hW)).mono fun e w' h => decV_of h
  have HD2 : Hid (∀ W A' c', Reads W W.heap.size 1 A' n (bcells l) → n ≤ c' → (A' = none → c' = 0) → Calls Tryz.prog 28 #[.slice A' n c'] W fun e w' => Below W.heap.size W w' ∧ ∃ cs : List Value, e = .returned (.tuple #[.agg (Value.int .i32 zz :: cs).toArray, .int .i64 qq, .int .i64 ee]) ∧ At w' none x cs) := fun W A' c' h1 h2 h3 => by
    rw [hzz, hx, hqq, hee]
    exact (refDecode_any rwat_ok c' n A' l W h1 hln h2 hn2 h3).mono fun e w' h => decV_of h
  have HSM : Hid (∀ W c d, At W none x c → At W none x d → Calls Tryz.prog 15 #[.agg c.toArray, .agg d.toArray] W fun e w' => e = .returned (.bool true) ∧ Below W.heap.size W w') := fun W c d h1 h2 => by
    obtain ⟨b', h3, h4⟩ := same_any h1 h2
    obtain rfl : b' = true := h3.2 rfl
    exact h4 W (Below.refl _ _)
  clear hr hln hnc hcm hn hnil E hzz hx hqq hee
  go_enter Tryz.func6, Tryz.ntmps6
  go_wp2_with (first
    | (at_builtin
       refine wpList_append_any _ rfl (.tmp 10) (.tmp 11) _ rfl w.heap.size 5 i0 _ 1 1 Tryz.underlying22 hi0 hz0 hzi1 hzi2 rfl (by decide) (.slice (some ⟨w.heap.size, 0, none⟩) 0 0) 0 [] rfl HOW.out w.heap.size A n c (bcells l) rfl (HRD.out _ HB1.out) (bcells_one _) (by omega) (by omega) HB1.out.size ?_
       intro v2 w2 ho2 hg2 hat2
       rw [Nat.zero_add, List.nil_append] at ho2
       obtain ⟨A2, c2, rfl⟩ := slice_form ho2
       have HO2 := Lib.hid ho2
       have HB2 : Hid (Below w.heap.size w w2) := HB1.out.grown hg2 HB1.out.size (fun k hk => by cases hk; exact Nat.le_refl _)
       clear ho2 hg2 hat2)
    | (go_at_call 27
       refine (HD1.out _ A2 c2 HB2.out (Reads.of_own HO2.out) (own_capO HO2.out) (fun h => (own_nil HO2.out h).2)).mono ?_
       rintro e w3 ⟨hb, ca, rfl, hat⟩
       have HB3 := hidT HB2 hb
       have HO3 := Lib.hid (own_below HO2.out hb)
       have HA3 := Lib.hid hat
       have HZI : Hid ((Tryz.prog.info? 44).map (·.size) = some (Value.int .i32 zz :: ca).toArray.size) := (by unfold Hid; rw [req_size, List.size_toArray, List.length_cons, hat.len])
       have HZZ : Hid (((Tryz.prog.info? 44).bind (·.zero)).map (·.cells.size) = some (Value.int .i32 zz :: ca).toArray.size) := (by unfold Hid; rw [zer_reqO, List.size_toArray, List.length_cons, hat.len])
       have HON : Hid ((Value.int .i32 zz :: ca).toArray.all (·.oneCell') = true) := (by unfold Hid; have h := hat.one; rw [Array.all_eq_true_iff_forall_mem] at h ⊢; intro v hv; simp at hv; rcases hv with rfl | hv; rfl; exact h v (by simpa using hv))
       clear hb hat)
    | (with_reducible refine wpAt 4 ?_
       refine wpList_newrow rfl rfl 44 rfl 4 rfl (.tmp 16) rfl rfl (Value.int .i32 zz :: ca).toArray (fun _ => rfl) (show 4 < 57 by decide) HZZ.out HZI.out HON.out ?_
       obtain ⟨w4, hw4⟩ : ∃ w4, w3.alloc (.cells (Value.int .i32 zz :: ca).toArray 44) = w4 := ⟨_, rfl⟩
       rw [hw4]
       have HB4 := hidT HB3 (newB hw4)
       have HQ4 := Lib.hid (newK hw4)
       have HO4 := Lib.hid (own_below HO3.out (newB hw4))
       have HA4 := Lib.hid (HA3.out.later (newB hw4))
       clear hw4)
    | (go_at_call 28
       refine (HD2.out _ A c ((HRD.out _ HB4.out).more HB4.out.size) HNC.out (fun h => (HNIL.out h).2)).mono ?_
       rintro e w5 ⟨hb, cb, rfl, hat⟩
       have HB5 := hidT HB4 hb
       have HO5 := Lib.hid (own_below HO4.out hb)
       have HQ5 := Lib.hid (HQ4.out.below hb HQ4.out.lt)
       have HA5 := Lib.hid (HA4.out.later hb)
       have HC5 := Lib.hid hat
       have HYI : Hid ((Tryz.prog.info? 44).map (·.size) = some (Value.int .i32 zz :: cb).toArray.size) := (by unfold Hid; rw [req_size, List.size_toArray, List.length_cons, hat.len])
       have HYZ : Hid (((Tryz.prog.info? 44).bind (·.zero)).map (·.cells.size) = some (Value.int .i32 zz :: cb).toArray.size) := (by unfold Hid; rw [zer_reqO, List.size_toArray, List.length_cons, hat.len])
       have HYN : Hid ((Value.int .i32 zz :: cb).toArray.all (·.oneCell') = true) := (by unfold Hid; have h := hat.one; rw [Array.all_eq_true_iff_forall_mem] at h ⊢; intro v hv; simp at hv; rcases hv with rfl | hv; rfl; exact h v (by simpa using hv))
       clear hb hat)
    | (with_reducible refine wpAt 7 ?_
       refine wpList_newrow rfl rfl 44 rfl 7 rfl (.tmp 22) rfl rfl (Value.int .i32 zz :: cb).toArray (fun _ => rfl) (show 7 < 57 by decide) HYZ.out HYI.out HYN.out ?_
       obtain ⟨w6, hw6⟩ : ∃ w6, w5.alloc (.cells (Value.int .i32 zz :: cb).toArray 44) = w6 := ⟨_, rfl⟩
       rw [hw6]
       have HB6 := hidT HB5 (newB hw6)
       have HR6 := Lib.hid (newK hw6)
       have HQ6 := Lib.hid (HQ5.out.below (newB hw6) HQ5.out.lt)
       have HO6 := Lib.hid (own_below HO5.out (newB hw6))
       have HA6 := Lib.hid (HA5.out.later (newB hw6))
       have HC6 := Lib.hid (HC5.out.later (newB hw6))
       have HAI : Hid ((Tryz.prog.info? 29).map (·.size) = some ca.length) := (by unfold Hid; rw [HA6.out.len]; exact isz_29)
       have HCI : Hid ((Tryz.prog.info? 29).map (·.size) = some cb.length) := (by unfold Hid; rw [HC6.out.len]; exact isz_29)
       have d0 := blk_cell HQ6.out 0 (u := .int .i32 zz) rfl
       have e0 := blk_cell HR6.out 0 (u := .int .i32 zz) rfl
       clear hw6)
    | (with_reducible refine wpAt 32 ?_
       refine wpList_load_at (by rfl) 29 (.tmp 31) rfl ⟨w3.heap.size, 1, none⟩ rfl ca _ (row_tail HQ6.out) Tryz.underlying29 rfl HAI.out ?_)
    | (with_reducible refine wpAt 34 ?_
       refine wpList_load_at (by rfl) 29 (.tmp 33) rfl ⟨w5.heap.size, 1, none⟩ rfl cb _ (row_tail HR6.out) Tryz.underlying29 rfl HCI.out ?_)
    | (go_at_call 15
       refine (HSM.out _ ca cb HA6.out HC6.out).mono ?_
       rintro e w7 ⟨rfl, hb⟩
       have HB7 := hidT HB6 hb
       have hcv1 := run_string_of_bytes (P := Tryz.prog) (w := w7) (src := 22) (e := 5) Tryz.underlying22 Tryz.underlying5 (Reads.of_own (own_below HO6.out hb)) (c := c2) 9 Tryz.underlying9
       have hcv2 := run_string_of_bytes (P := Tryz.prog) (w := w7) (src := 22) (e := 5) Tryz.underlying22 Tryz.underlying5 (HRD.out _ HB7.out) (c := c) 9 Tryz.underlying9
       clear hb d0 e0)
    | (go_at_call 9
       refine (HAL.out _ HB7.out).mono ?_
       rintro e w8 ⟨rfl, hb⟩
       have HB8 := hidT HB7 hb
       clear hb))
  go_ret
  exact ⟨rfl, HB8.out⟩
end Go.Proofs.YtpjjnmdfgcfnmaaGreatDoor
/- OpsDecodes: the opener. (printed by gen_d1.py) -/
namespace Go.Proofs.YtpjjnmdfgcfnmaaGreatDoor
open Go.ChangeShapes Go.WideShapes Go.ChangeAt Go.RowKit

set_option maxRecDepth 100000 in
theorem opsDecodes_walk {H : Type} (enc : TypeId × Value → H) (base : Nat) (W : World) (v0 : Value) (d0 : DataW H) (p0 : List MemPlace) (hv0 : Value.okWide Tryz.prog W .any base 22 v0) (h0 : DataW.Trod enc Tryz.prog W 0 (fun _ => true) true 22 v0 d0 p0)
    (hsz : (DataW.weightsEach Tryz.prog ([22] : List TypeId) ([d0] : List (DataW H))).all (· ≤ reachBytes) = true)
    (hlaid : laidMetH Tryz.prog Rows.opsDecodesRow.laid W) :
    Calls Tryz.prog 6 #[v0] W fun e W' => e = .returned (.bool true) ∧ Below W.heap.size W W' := by
  obtain ⟨A, n, c, l, rfl, h1, h2, h3, h4, h5, h6, _⟩ := bytes_argO hv0 (rdd_of 0 h0 hsz rfl rfl)
  exact decodesLaw_walk h6 h5 h2 h3 h4 h1 (env_laid hlaid (by kernel_rfl) (by simp [Rows.opsDecodesRow]) (by simp [Rows.opsDecodesRow]))
end Go.Proofs.YtpjjnmdfgcfnmaaGreatDoor
