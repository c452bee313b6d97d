/- reply.clone: a result in new memory. (printed by gen_ra5.py) -/
import Derived.Test.YtnbaajplelchjaaGreatDoorRa3
import Derived.Test.YtnbaajplelchjaaGreatDoorTrio
import Derived.Test.YtnbaajplelchjaaGreatDoorLine
set_option linter.unusedVariables false
set_option linter.unusedSimpArgs false
namespace Go.Proofs.YtnbaajplelchjaaGreatDoor
open Go.RowKit

/-- the lists of a result, copied -/
structure CC (w : World) (f : ResF) (s1 s2 s3 s4 : Sl) (W : World) : Prop where
  l1 : SlAt W (some (w.heap.size + 2)) 5 1 1 s1 f.l.length (bcells f.l)
  l2 : SlAt W (some (w.heap.size + 2)) 115 3 40 s2 f.L.length (aclCells f.L)
  l3 : SlAt W (some (w.heap.size + 2)) 9 1 16 s3 f.K.length (strCells f.K)
  l4 : SlAt W (some (w.heap.size + 2)) 113 2 32 s4 f.I.length (idCells f.I)
theorem CC.later {w W W' : World} {f : ResF} {s1 s2 s3 s4 : Sl} (h : CC w f s1 s2 s3 s4 W) (hb : Below W.heap.size W W') : CC w f s1 s2 s3 s4 W' := ⟨h.l1.later hb, h.l2.later hb, h.l3.later hb, h.l4.later hb⟩
theorem CC.grown {w W W' : World} {f : ResF} {s1 s2 s3 s4 : Sl} {g : Nat} (h : CC w f s1 s2 s3 s4 W) (hg : W.grownBy W' (some g)) (hlt : g < w.heap.size + 2) : CC w f s1 s2 s3 s4 W' := ⟨h.l1.grown hg hlt, h.l2.grown hg hlt, h.l3.grown hg hlt, h.l4.grown hg hlt⟩
theorem CC.rows {w W W' : World} {f : ResF} {s1 s2 s3 s4 : Sl} {g : Nat} {cs : Array Value} (h : CC w f s1 s2 s3 s4 W) (hg : W.grownBy W' (some g)) (hB : Blk W g 33 cs) : CC w f s1 s2 s3 s4 W' := ⟨h.l1.other hg hB (by decide), h.l2.other hg hB (by decide), h.l3.other hg hB (by decide), h.l4.other hg hB (by decide)⟩
theorem clone_end {w W : World} {f : ResF} {s1 s2 s3 s4 s5 : Sl} {Q R : List (ResC × List Value)} (ok : f.Ok) (h : CC w f s1 s2 s3 s4 W)
    (h4 : SlAt W (some (w.heap.size + 2)) 33 22 240 s5 R.length (R.flatMap Prod.snd)) (hR : ∀ r ∈ R, At W (some (w.heap.size + 2)) r.1 r.2) (hf : R.map Prod.fst = Q.map Prod.fst) :
    At W (some (w.heap.size + 2)) (.mk f (Q.map Prod.fst)) (f.row s1 s2 s3 s4 s5) := by
  rw [← hf]
  exact .mk f s1 s2 s3 s4 s5 R ok h.l1 h.l2 h.l3 h.l4 h4 hR
/-- in the midst of the copying of four lists: what was handed out so far, and the box -/
def CM (w : World) (f : ResF) (d a k i s : Sl) : List Value → World → Prop
  | [], W => KSt w f d a k i s W
  | [v1], W => ∃ s1, v1 = s1.v ∧ SlAt W (some (w.heap.size + 2)) 5 1 1 s1 f.l.length (bcells f.l) ∧ KSt w f d a k i s W
  | [v1, v2], W => ∃ s1 s2, v1 = s1.v ∧ v2 = s2.v ∧ SlAt W (some (w.heap.size + 2)) 5 1 1 s1 f.l.length (bcells f.l) ∧ SlAt W (some (w.heap.size + 2)) 115 3 40 s2 f.L.length (aclCells f.L) ∧ KSt w f d a k i s W
  | [v1, v2, v3], W => ∃ s1 s2 s3, v1 = s1.v ∧ v2 = s2.v ∧ v3 = s3.v ∧ SlAt W (some (w.heap.size + 2)) 5 1 1 s1 f.l.length (bcells f.l) ∧ SlAt W (some (w.heap.size + 2)) 115 3 40 s2 f.L.length (aclCells f.L) ∧ SlAt W (some (w.heap.size + 2)) 9 1 16 s3 f.K.length (strCells f.K) ∧ KSt w f d a k i s W
  | v1 :: v2 :: v3 :: v4 :: r, W => ∃ s1 s2 s3 s4, v1 = s1.v ∧ v2 = s2.v ∧ v3 = s3.v ∧ v4 = s4.v ∧ CC w f s1 s2 s3 s4 W ∧ KSt w f (if 1 ≤ r.length then s1 else d) (if 2 ≤ r.length then s2 else a) (if 3 ≤ r.length then s3 else k) (if 4 ≤ r.length then s4 else i) s W
theorem CM.box {w W : World} {f : ResF} {d a k i s : Sl} {vs : List Value} (h : CM w f d a k i s vs W) (hl : vs.length ≤ 4) : Blk W w.heap.size 33 (f.row d a k i s).toArray := by
  match vs, h, hl with
  | [], h, _ => exact (show KSt w f d a k i s W from h).blk
  | [_], h, _ => obtain ⟨_, _, _, h⟩ := h; exact h.blk
  | [_, _], h, _ => obtain ⟨_, _, _, _, _, _, h⟩ := h; exact h.blk
  | [_, _, _], h, _ => obtain ⟨_, _, _, _, _, _, _, _, _, h⟩ := h; exact h.blk
  | [_, _, _, _], h, _ => obtain ⟨_, _, _, _, _, _, _, _, _, h⟩ := h; exact h.blk
  | _ :: _ :: _ :: _ :: _ :: _, _, hl => simp at hl
section
variable {α : Type} {l : List α}

theorem lst0 (h : l.length = 0) : l = [] := by
  match l, h with
  | [], _ => exact rfl
theorem lst1 (h : l.length = 1) : ∃ x0, l = [x0] := by
  match l, h with
  | [x0], _ => exact ⟨_, rfl⟩
theorem lst2 (h : l.length = 2) : ∃ x0 x1, l = [x0, x1] := by
  match l, h with
  | [x0, x1], _ => exact ⟨_, _, rfl⟩
theorem lst3 (h : l.length = 3) : ∃ x0 x1 x2, l = [x0, x1, x2] := by
  match l, h with
  | [x0, x1, x2], _ => exact ⟨_, _, _, rfl⟩
theorem lst4 (h : l.length = 4) : ∃ x0 x1 x2 x3, l = [x0, x1, x2, x3] := by
  match l, h with
  | [x0, x1, x2, x3], _ => exact ⟨_, _, _, _, rfl⟩
theorem lst5 (h : l.length = 5) : ∃ x0 x1 x2 x3 x4, l = [x0, x1, x2, x3, x4] := by
  match l, h with
  | [x0, x1, x2, x3, x4], _ => exact ⟨_, _, _, _, _, rfl⟩
theorem lst6 (h : l.length = 6) : ∃ x0 x1 x2 x3 x4 x5, l = [x0, x1, x2, x3, x4, x5] := by
  match l, h with
  | [x0, x1, x2, x3, x4, x5], _ => exact ⟨_, _, _, _, _, _, rfl⟩
theorem lst7 (h : l.length = 7) : ∃ x0 x1 x2 x3 x4 x5 x6, l = [x0, x1, x2, x3, x4, x5, x6] := by
  match l, h with
  | [x0, x1, x2, x3, x4, x5, x6], _ => exact ⟨_, _, _, _, _, _, _, rfl⟩
theorem lst8 (h : l.length = 8) : ∃ x0 x1 x2 x3 x4 x5 x6 x7, l = [x0, x1, x2, x3, x4, x5, x6, x7] := by
  match l, h with
  | [x0, x1, x2, x3, x4, x5, x6, x7], _ => exact ⟨_, _, _, _, _, _, _, _, rfl⟩
end
theorem step_store_mid {P : Program} {ops : Array Oper} {o : Oper} {a : Act} {w : World} {K : Act → World → Prop} {Q : Exit → Act → World → Prop} (hg : o.guard = none) (ty : TypeId) (x y : Operand) (ho : o.op = .store ty x y) (g off : Nat) (v : Value) (hx : a.eval x = .pointer (some ⟨g, off, none⟩)) (hy : a.eval y = v)
    {t : TypeId} {cs : Array Value} {news : List Value} (hb : Blk w g t cs) (hv : v.cells.toList = news) (hi : (P.info? ty).map (·.size) = some news.length) (hl : off + news.length ≤ cs.size) (h1 : ∀ v ∈ news, v.oneCell' = true)
    (h : ∀ w' cs', Blk w' g t cs' → cs'.toList = cs.toList.take off ++ news ++ cs.toList.drop (off + news.length) → w.grownBy w' (some g) → w'.heap.size = w.heap.size → K (a.put o.dst undef) w') : if Region.wanted o (yielded ops a.tmps) = true then Oper.wp P o a w K Q else K (a.put o.dst undef) w := by
  obtain ⟨w', cs', h2, h3, h4, h5, h6⟩ := run_storeVar_mid (P := P) hb hv hi hl h1
  rw [if_pos (want_free hg)]
  unfold Oper.wp execOp
  simp only [ho, hx, hy, Instr.storeAt, Instr.sureAddr, Sem.run_bind, Sem.run_pure, Result.andThen_ok, h2]
  exact h w' cs' h3 h4 h5 h6

set_option maxRecDepth 100000 in
set_option maxHeartbeats 8000000 in
theorem clone_walk {lo : Option Nat} (f : ResF) (d a k i s : Sl) (Q : List (ResC × List Value)) (w : World) (ok : f.Ok) (hd : SlAt w lo 5 1 1 d f.l.length (bcells f.l)) (ha : SlAt w lo 115 3 40 a f.L.length (aclCells f.L))
    (hk : SlAt w lo 9 1 16 k f.K.length (strCells f.K)) (hi : SlAt w lo 113 2 32 i f.I.length (idCells f.I)) (hs : SlAt w lo 33 22 240 s Q.length (Q.flatMap Prod.snd)) (hQ : ∀ q ∈ Q, At w lo q.1 q.2)
    (IH : ∀ q ∈ Q, ∀ W, Below w.heap.size w W → Calls Tryz.prog 69 #[.agg q.2.toArray] W (Cloned W q.1)) (cs : Array Value) (hcs : cs = (f.row d a k i s).toArray) :
    Calls Tryz.prog 69 #[.agg cs] w (Cloned w (.mk f (Q.map Prod.fst))) := by
  obtain ⟨w1, hw1⟩ : ∃ w1, w.alloc (.cells cs 33) = w1 := ⟨_, rfl⟩
  have hz1 : w1.heap.size = w.heap.size + 1 := by rw [← hw1]; simp
  have HCS : Hid (cs = (f.row d a k i s).toArray) := hcs
  have HD : Hid (∀ W, Below w.heap.size w W → Calls Tryz.prog 83 #[.slice d.A d.n d.c] W fun e w' => ∃ s' : Sl, e = .returned (.slice s'.A s'.n s'.c) ∧ SlAt w' (some W.heap.size) 5 1 1 s' f.l.length (bcells f.l) ∧ Below W.heap.size W w') := fun W hW => u8sClone_any (hd.later hW) (bcells_one _)
  have HA : Hid (∀ W, Below w.heap.size w W → Calls Tryz.prog 123 #[.slice a.A a.n a.c] W fun e w' => ∃ s' : Sl, e = .returned (.slice s'.A s'.n s'.c) ∧ SlAt w' (some W.heap.size) 115 3 40 s' f.L.length (aclCells f.L) ∧ Below W.heap.size W w') := fun W hW => aclsClone_any (ha.later hW) (aclCells_one _)
  have HK : Hid (∀ W, Below w.heap.size w W → Calls Tryz.prog 124 #[.slice k.A k.n k.c] W fun e w' => ∃ s' : Sl, e = .returned (.slice s'.A s'.n s'.c) ∧ SlAt w' (some W.heap.size) 9 1 16 s' f.K.length (strCells f.K) ∧ Below W.heap.size W w') := fun W hW => strsClone_any (hk.later hW) (strCells_one _)
  have HI : Hid (∀ W, Below w.heap.size w W → Calls Tryz.prog 125 #[.slice i.A i.n i.c] W fun e w' => ∃ s' : Sl, e = .returned (.slice s'.A s'.n s'.c) ∧ SlAt w' (some W.heap.size) 113 2 32 s' f.I.length (idCells f.I) ∧ Below W.heap.size W w') := fun W hW => idsClone_any (hi.later hW) (idCells_one _)
  have HSS : Hid (∀ W, Below w.heap.size w W → Calls Tryz.prog 126 #[.slice s.A s.n s.c] W fun e w' => ∃ s' : Sl, e = .returned (.slice s'.A s'.n s'.c) ∧ SlAt w' (some W.heap.size) 33 22 240 s' Q.length (Q.flatMap Prod.snd) ∧ Below W.heap.size W w') := fun W hW => ressClone_any (hs.later hW) (resCells_one hQ)
  have HQ := Lib.hid hQ
  have HIH := Lib.hid IH
  have HOK := Lib.hid ok
  have HSQ : Hid (Q.length = s.n) := hs.len
  have HREA : Hid (s.n * 240 ≤ reachBytes) := hs.reach
  clear hcs hd ha hk hi hs hQ IH ok
  go_enter Tryz.func69, Tryz.ntmps69
  go_wp2_with (first
    | (refine wpList_new rfl 33 rfl zer_res ?_
       intro old hold
       obtain ⟨w2, hw2⟩ : ∃ w2, w1.alloc (.cells old 33) = w2 := ⟨_, rfl⟩
       rw [hw2]
       have HK2 : Hid (KSt w f d a k i s w2) := by unfold Hid; rw [← hw2, ← hw1]; exact KSt.start HCS.out hold
       clear hw2 hold))
  clear hw1
  refine wp_region_trio (w0 := w2) [2, 5, 8, 12, 14, 16, 18, 21] [(.pointer (some ⟨w.heap.size, 14, none⟩)), (.slice d.A d.n d.c), undef, (.pointer (some ⟨w.heap.size, 15, none⟩)), (.slice a.A a.n a.c), undef, (.pointer (some ⟨w.heap.size, 16, none⟩)), (.slice k.A k.n k.c), undef, (.pointer (some ⟨w.heap.size, 18, none⟩)), (.pointer (some ⟨w.heap.size, 20, none⟩)), (.slice i.A i.n i.c), undef, (.pointer (some ⟨w.heap.size, 14, none⟩)), undef, (.pointer (some ⟨w.heap.size, 15, none⟩)), undef, (.pointer (some ⟨w.heap.size, 16, none⟩)), undef, (.pointer (some ⟨w.heap.size, 18, none⟩)), (.pointer (some ⟨w.heap.size, 20, none⟩)), undef] (CM w f d a k i s) (HK2.out.later (Below.refl _ _).drew) (by as_aux_lemma => kernel_rfl) (by as_aux_lemma => kernel_rfl) (by as_aux_lemma => kernel_rfl) (by as_aux_lemma => kernel_rfl) (by as_aux_lemma => kernel_rfl) ⟨(fun ac W vs hM hp hold hdep K hK => op_u (u := .pointer (some ⟨w.heap.size, 14, none⟩)) rfl (r_field 33 _ 4 rfl (show ac.eval (.tmp 1) = .pointer (some ⟨w.heap.size, 0, none⟩) from (eval_tmp ((hold 1 (by as_aux_lemma => kernel_rfl)).trans rfl))) Tryz.underlying33 rfl (n := 0) isz_25 rfl) hK),
    (fun ac W vs hM hp hold hdep K hK => op_u (u := .slice d.A d.n d.c) rfl (r_load 25 _ rfl (show ac.eval (.tmp 4) = .pointer (some ⟨w.heap.size, 14, none⟩) from (eval_tmp (hdep ⟨0, .data⟩ (by simp) rfl 4 rfl))) (blk_cell (CM.box hM (Nat.le_trans hp (Nat.le_of_ble_eq_true (by as_aux_lemma => kernel_rfl)))) 14 rfl) Tryz.underlying25 rfl) hK),
    (fun ac W vs hM hp hold hdep hl K hK => by
      obtain rfl := lst0 hl
      have e5 : ac.eval (.tmp 5) = .slice d.A d.n d.c := eval_tmp (hdep ⟨1, .data⟩ (by simp) rfl 5 rfl)
      have hK0 : KSt w f d a k i s W := hM
      refine step_call (want_free rfl) 83 _ _ rfl #[.slice d.A d.n d.c] (mapA1 e5) Tryz.func83 (by as_aux_lemma => kernel_rfl) (by as_aux_lemma => kernel_rfl) (HD.out W hK0.below) ?_
      rintro e w' ⟨s', rfl, hs', hb⟩
      exact ⟨_, rfl, hK _ _ ⟨s', rfl, hs'.lo hK0.size, hK0.later hb⟩⟩),
    (fun ac W vs hM hp hold hdep K hK => op_u (u := .pointer (some ⟨w.heap.size, 15, none⟩)) rfl (r_field 33 _ 5 rfl (show ac.eval (.tmp 1) = .pointer (some ⟨w.heap.size, 0, none⟩) from (eval_tmp ((hold 1 (by as_aux_lemma => kernel_rfl)).trans rfl))) Tryz.underlying33 rfl (n := 0) isz_26 rfl) hK),
    (fun ac W vs hM hp hold hdep K hK => op_u (u := .slice a.A a.n a.c) rfl (r_load 26 _ rfl (show ac.eval (.tmp 7) = .pointer (some ⟨w.heap.size, 15, none⟩) from (eval_tmp (hdep ⟨3, .data⟩ (by simp) rfl 7 rfl))) (blk_cell (CM.box hM (Nat.le_trans hp (Nat.le_of_ble_eq_true (by as_aux_lemma => kernel_rfl)))) 15 rfl) Tryz.underlying26 rfl) hK),
    (fun ac W vs hM hp hold hdep hl K hK => by
      obtain ⟨v1, rfl⟩ := lst1 hl
      have e8 : ac.eval (.tmp 8) = .slice a.A a.n a.c := eval_tmp (hdep ⟨4, .data⟩ (by simp) rfl 8 rfl)
      obtain ⟨s1, q1, g1, hK0⟩ := hM
      refine step_call (want_free rfl) 123 _ _ rfl #[.slice a.A a.n a.c] (mapA1 e8) Tryz.func123 (by as_aux_lemma => kernel_rfl) (by as_aux_lemma => kernel_rfl) (HA.out W hK0.below) ?_
      rintro e w' ⟨s', rfl, hs', hb⟩
      exact ⟨_, rfl, hK _ _ ⟨s1, s', q1, rfl, g1.later hb, hs'.lo hK0.size, hK0.later hb⟩⟩),
    (fun ac W vs hM hp hold hdep K hK => op_u (u := .pointer (some ⟨w.heap.size, 16, none⟩)) rfl (r_field 33 _ 6 rfl (show ac.eval (.tmp 1) = .pointer (some ⟨w.heap.size, 0, none⟩) from (eval_tmp ((hold 1 (by as_aux_lemma => kernel_rfl)).trans rfl))) Tryz.underlying33 rfl (n := 0) isz_27 rfl) hK),
    (fun ac W vs hM hp hold hdep K hK => op_u (u := .slice k.A k.n k.c) rfl (r_load 27 _ rfl (show ac.eval (.tmp 10) = .pointer (some ⟨w.heap.size, 16, none⟩) from (eval_tmp (hdep ⟨6, .data⟩ (by simp) rfl 10 rfl))) (blk_cell (CM.box hM (Nat.le_trans hp (Nat.le_of_ble_eq_true (by as_aux_lemma => kernel_rfl)))) 16 rfl) Tryz.underlying27 rfl) hK),
    (fun ac W vs hM hp hold hdep hl K hK => by
      obtain ⟨v1, v2, rfl⟩ := lst2 hl
      have e11 : ac.eval (.tmp 11) = .slice k.A k.n k.c := eval_tmp (hdep ⟨7, .data⟩ (by simp) rfl 11 rfl)
      obtain ⟨s1, s2, q1, q2, g1, g2, hK0⟩ := hM
      refine step_call (want_free rfl) 124 _ _ rfl #[.slice k.A k.n k.c] (mapA1 e11) Tryz.func124 (by as_aux_lemma => kernel_rfl) (by as_aux_lemma => kernel_rfl) (HK.out W hK0.below) ?_
      rintro e w' ⟨s', rfl, hs', hb⟩
      exact ⟨_, rfl, hK _ _ ⟨s1, s2, s', q1, q2, rfl, g1.later hb, g2.later hb, hs'.lo hK0.size, hK0.later hb⟩⟩),
    (fun ac W vs hM hp hold hdep K hK => op_u (u := .pointer (some ⟨w.heap.size, 18, none⟩)) rfl (r_field 33 _ 8 rfl (show ac.eval (.tmp 1) = .pointer (some ⟨w.heap.size, 0, none⟩) from (eval_tmp ((hold 1 (by as_aux_lemma => kernel_rfl)).trans rfl))) Tryz.underlying33 rfl (n := 2) isz_30 rfl) hK),
    (fun ac W vs hM hp hold hdep K hK => op_u (u := .pointer (some ⟨w.heap.size, 20, none⟩)) rfl (r_field 30 _ 2 rfl (show ac.eval (.tmp 13) = .pointer (some ⟨w.heap.size, 18, none⟩) from (eval_tmp (hdep ⟨9, .data⟩ (by simp) rfl 13 rfl))) Tryz.underlying30 rfl (n := 0) isz_28 rfl) hK),
    (fun ac W vs hM hp hold hdep K hK => op_u (u := .slice i.A i.n i.c) rfl (r_load 28 _ rfl (show ac.eval (.tmp 14) = .pointer (some ⟨w.heap.size, 20, none⟩) from (eval_tmp (hdep ⟨10, .data⟩ (by simp) rfl 14 rfl))) (blk_cell (CM.box hM (Nat.le_trans hp (Nat.le_of_ble_eq_true (by as_aux_lemma => kernel_rfl)))) 20 rfl) Tryz.underlying28 rfl) hK),
    (fun ac W vs hM hp hold hdep hl K hK => by
      obtain ⟨v1, v2, v3, rfl⟩ := lst3 hl
      have e15 : ac.eval (.tmp 15) = .slice i.A i.n i.c := eval_tmp (hdep ⟨11, .data⟩ (by simp) rfl 15 rfl)
      obtain ⟨s1, s2, s3, q1, q2, q3, g1, g2, g3, hK0⟩ := hM
      refine step_call (want_free rfl) 125 _ _ rfl #[.slice i.A i.n i.c] (mapA1 e15) Tryz.func125 (by as_aux_lemma => kernel_rfl) (by as_aux_lemma => kernel_rfl) (HI.out W hK0.below) ?_
      rintro e w' ⟨s', rfl, hs', hb⟩
      exact ⟨_, rfl, hK _ _ ⟨s1, s2, s3, s', q1, q2, q3, rfl, ⟨g1.later hb, g2.later hb, g3.later hb, hs'.lo hK0.size⟩, hK0.later hb⟩⟩),
    (fun ac W vs hM hp hold hdep K hK => op_u (u := .pointer (some ⟨w.heap.size, 14, none⟩)) rfl (r_field 33 _ 4 rfl (show ac.eval (.tmp 1) = .pointer (some ⟨w.heap.size, 0, none⟩) from (eval_tmp ((hold 1 (by as_aux_lemma => kernel_rfl)).trans rfl))) Tryz.underlying33 rfl (n := 0) isz_25 rfl) hK),
    (fun ac W vs hM hp hold hdep hl K hK => by
      obtain ⟨v1, v2, v3, v4, rfl⟩ := lst4 hl
      have e17 : ac.eval (.tmp 17) = .pointer (some ⟨w.heap.size, 14, none⟩) := eval_tmp (hdep ⟨13, .data⟩ (by simp) rfl 17 rfl)
      obtain ⟨s1, s2, s3, s4, q1, q2, q3, q4, hC, hK0⟩ := hM
      have hK0 : KSt w f d a k i s W := hK0
      have f6 : ac.eval (.tmp 6) = .slice s1.A s1.n s1.c := (eval_tmp (hdep ⟨2, .data⟩ (by simp) rfl 6 rfl)).trans q1
      refine step_store_mid rfl 25 (.tmp 17) (.tmp 6) rfl w.heap.size 14 (.slice s1.A s1.n s1.c) e17 f6 hK0.blk (news := [.slice s1.A s1.n s1.c]) rfl isz_25 (by rw [row_asize]; exact (by decide : 14 + 1 ≤ 22)) (by simp [Value.oneCell']) ?_
      intro wn cn hBn hxn hgn hzn
      exact hK undef wn ⟨s1, s2, s3, s4, q1, q2, q3, q4, hC.grown hgn (by omega), hK0.put hBn hgn (hxn.trans row_d)⟩),
    (fun ac W vs hM hp hold hdep K hK => op_u (u := .pointer (some ⟨w.heap.size, 15, none⟩)) rfl (r_field 33 _ 5 rfl (show ac.eval (.tmp 1) = .pointer (some ⟨w.heap.size, 0, none⟩) from (eval_tmp ((hold 1 (by as_aux_lemma => kernel_rfl)).trans rfl))) Tryz.underlying33 rfl (n := 0) isz_26 rfl) hK),
    (fun ac W vs hM hp hold hdep hl K hK => by
      obtain ⟨v1, v2, v3, v4, v5, rfl⟩ := lst5 hl
      have e18 : ac.eval (.tmp 18) = .pointer (some ⟨w.heap.size, 15, none⟩) := eval_tmp (hdep ⟨15, .data⟩ (by simp) rfl 18 rfl)
      obtain ⟨s1, s2, s3, s4, q1, q2, q3, q4, hC, hK0⟩ := hM
      have hK0 : KSt w f s1 a k i s W := hK0
      have f9 : ac.eval (.tmp 9) = .slice s2.A s2.n s2.c := (eval_tmp (hdep ⟨5, .data⟩ (by simp) rfl 9 rfl)).trans q2
      refine step_store_mid rfl 26 (.tmp 18) (.tmp 9) rfl w.heap.size 15 (.slice s2.A s2.n s2.c) e18 f9 hK0.blk (news := [.slice s2.A s2.n s2.c]) rfl isz_26 (by rw [row_asize]; exact (by decide : 15 + 1 ≤ 22)) (by simp [Value.oneCell']) ?_
      intro wn cn hBn hxn hgn hzn
      exact hK undef wn ⟨s1, s2, s3, s4, q1, q2, q3, q4, hC.grown hgn (by omega), hK0.put hBn hgn (hxn.trans row_a)⟩),
    (fun ac W vs hM hp hold hdep K hK => op_u (u := .pointer (some ⟨w.heap.size, 16, none⟩)) rfl (r_field 33 _ 6 rfl (show ac.eval (.tmp 1) = .pointer (some ⟨w.heap.size, 0, none⟩) from (eval_tmp ((hold 1 (by as_aux_lemma => kernel_rfl)).trans rfl))) Tryz.underlying33 rfl (n := 0) isz_27 rfl) hK),
    (fun ac W vs hM hp hold hdep hl K hK => by
      obtain ⟨v1, v2, v3, v4, v5, v6, rfl⟩ := lst6 hl
      have e19 : ac.eval (.tmp 19) = .pointer (some ⟨w.heap.size, 16, none⟩) := eval_tmp (hdep ⟨17, .data⟩ (by simp) rfl 19 rfl)
      obtain ⟨s1, s2, s3, s4, q1, q2, q3, q4, hC, hK0⟩ := hM
      have hK0 : KSt w f s1 s2 k i s W := hK0
      have f12 : ac.eval (.tmp 12) = .slice s3.A s3.n s3.c := (eval_tmp (hdep ⟨8, .data⟩ (by simp) rfl 12 rfl)).trans q3
      refine step_store_mid rfl 27 (.tmp 19) (.tmp 12) rfl w.heap.size 16 (.slice s3.A s3.n s3.c) e19 f12 hK0.blk (news := [.slice s3.A s3.n s3.c]) rfl isz_27 (by rw [row_asize]; exact (by decide : 16 + 1 ≤ 22)) (by simp [Value.oneCell']) ?_
      intro wn cn hBn hxn hgn hzn
      exact hK undef wn ⟨s1, s2, s3, s4, q1, q2, q3, q4, hC.grown hgn (by omega), hK0.put hBn hgn (hxn.trans row_k)⟩),
    (fun ac W vs hM hp hold hdep K hK => op_u (u := .pointer (some ⟨w.heap.size, 18, none⟩)) rfl (r_field 33 _ 8 rfl (show ac.eval (.tmp 1) = .pointer (some ⟨w.heap.size, 0, none⟩) from (eval_tmp ((hold 1 (by as_aux_lemma => kernel_rfl)).trans rfl))) Tryz.underlying33 rfl (n := 2) isz_30 rfl) hK),
    (fun ac W vs hM hp hold hdep K hK => op_u (u := .pointer (some ⟨w.heap.size, 20, none⟩)) rfl (r_field 30 _ 2 rfl (show ac.eval (.tmp 20) = .pointer (some ⟨w.heap.size, 18, none⟩) from (eval_tmp (hdep ⟨19, .data⟩ (by simp) rfl 20 rfl))) Tryz.underlying30 rfl (n := 0) isz_28 rfl) hK),
    (fun ac W vs hM hp hold hdep hl K hK => by
      obtain ⟨v1, v2, v3, v4, v5, v6, v7, rfl⟩ := lst7 hl
      have e21 : ac.eval (.tmp 21) = .pointer (some ⟨w.heap.size, 20, none⟩) := eval_tmp (hdep ⟨20, .data⟩ (by simp) rfl 21 rfl)
      obtain ⟨s1, s2, s3, s4, q1, q2, q3, q4, hC, hK0⟩ := hM
      have hK0 : KSt w f s1 s2 s3 i s W := hK0
      have f16 : ac.eval (.tmp 16) = .slice s4.A s4.n s4.c := (eval_tmp (hdep ⟨12, .data⟩ (by simp) rfl 16 rfl)).trans q4
      refine step_store_mid rfl 28 (.tmp 21) (.tmp 16) rfl w.heap.size 20 (.slice s4.A s4.n s4.c) e21 f16 hK0.blk (news := [.slice s4.A s4.n s4.c]) rfl isz_28 (by rw [row_asize]; exact (by decide : 20 + 1 ≤ 22)) (by simp [Value.oneCell']) ?_
      intro wn cn hBn hxn hgn hzn
      exact hK undef wn ⟨s1, s2, s3, s4, q1, q2, q3, q4, hC.grown hgn (by omega), hK0.put hBn hgn (hxn.trans row_i)⟩), trivial⟩ ?_
  intro w3 vs hM hl G hG
  obtain ⟨v1, v2, v3, v4, v5, v6, v7, v8, rfl⟩ := lst8 hl
  obtain ⟨s1, s2, s3, s4, rfl, rfl, rfl, rfl, hC, hK3⟩ := hM
  obtain rfl : G = [.inl (.pointer (some ⟨w.heap.size, 14, none⟩)), .inl (.slice d.A d.n d.c), .inl (.slice s1.A s1.n s1.c), .inl (.pointer (some ⟨w.heap.size, 15, none⟩)), .inl (.slice a.A a.n a.c), .inl (.slice s2.A s2.n s2.c), .inl (.pointer (some ⟨w.heap.size, 16, none⟩)), .inl (.slice k.A k.n k.c), .inl (.slice s3.A s3.n s3.c), .inl (.pointer (some ⟨w.heap.size, 18, none⟩)), .inl (.pointer (some ⟨w.heap.size, 20, none⟩)), .inl (.slice i.A i.n i.c), .inl (.slice s4.A s4.n s4.c), .inl (.pointer (some ⟨w.heap.size, 14, none⟩)), .inl v5, .inl (.pointer (some ⟨w.heap.size, 15, none⟩)), .inl v6, .inl (.pointer (some ⟨w.heap.size, 16, none⟩)), .inl v7, .inl (.pointer (some ⟨w.heap.size, 18, none⟩)), .inl (.pointer (some ⟨w.heap.size, 20, none⟩)), .inl v8] := hG.trans (by kernel_rfl)
  have HC3 := Lib.hid hC
  have HK3 : Hid (KSt w f s1 s2 s3 s4 s w3) := hK3
  simp only [Fin, Act.put, List.setIfInBounds_toArray, List.set_cons_zero, List.set_cons_succ]
  clear hC hK3 hG hl HK2 HD HA HK HI
  have q21 := HK3.out.c21
  by_cases hn0 : s.n = 0
  · have HQN : Hid (Q = []) := List.eq_nil_of_length_eq_zero (by rw [HSQ.out]; exact hn0)
    have HN0 := Lib.hid hn0
    clear hn0
    go_wp2_with (first
      | (go_at_call 126
         refine (HSS.out _ HK3.out.below).mono ?_
         rintro e u ⟨s5, rfl, hs5, hb⟩
         have HS5 := Lib.hid (hs5.lo HK3.out.size)
         have HKs := Lib.hid (HK3.out.later hb)
         have HCs := Lib.hid (HC3.out.later hb)
         have H50 : Hid (s5.n = 0) := by unfold Hid; rw [← hs5.len, HSQ.out]; exact HN0.out
         clear hb hs5 q21)
      | (with_reducible show wpList _ _ _ (Oper.mk none (.store _ (.tmp 25) _) _ _ _ _ :: _) _ _
         refine wpList_store_mid rfl 31 (.tmp 25) (.tmp 24) rfl w.heap.size 21 (.slice s5.A s5.n s5.c) rfl rfl HKs.out.blk (news := [.slice s5.A s5.n s5.c]) rfl isz_31 (by rw [row_asize]; exact (by decide : 21 + 1 ≤ 22)) (by simp [Value.oneCell']) ?_
         intro wn cn hBn hxn hgn hzn
         have HKt : Hid (KSt w f s1 s2 s3 s4 s5 wn) := HKs.out.put hBn hgn (hxn.trans row_s)
         have HCt := Lib.hid (HCs.out.grown hgn (by omega))
         have HS5t := Lib.hid (HS5.out.grown hgn (by omega))
         have q21 := HKt.out.c21
         clear hBn hxn hgn hzn))
    have HAT : Hid (At wn (some (w.heap.size + 2)) (.mk f (Q.map Prod.fst)) (f.row s1 s2 s3 s4 s5)) := clone_end HOK.out HCt.out HS5t.out (fun r hr => by rw [HQN.out] at hr; cases hr) rfl
    clear HK3 HC3
    refine wp_loop_rounds 1 ?_
    rw [rounds_succ]
    clear q21 HKs HCs HS5 HS5t HCt
    have HKr := HKt
    have h50 := H50.out
    obtain ⟨zr, hz1', hz2'⟩ := HKr.out.res
    have HZR := Lib.hid hz1'
    have hzs : zr.size = 22 := hz2'
    have HINF : Hid ((Tryz.prog.info? 33).map (·.size) = some (f.row s1 s2 s3 s4 s5).toArray.size) := by unfold Hid; rw [row_asize]; exact isz_33
    have HZS : Hid (zr.size = (f.row s1 s2 s3 s4 s5).toArray.size) := by unfold Hid; rw [row_asize]; exact hzs
    clear hz1' hz2' hzs
    go_wp2_with (first
      | (refine wpList_load_row rfl 33 (.tmp 1) rfl w.heap.size rfl 33 _ _ _ HKr.out.blk Tryz.underlying33 rfl HINF.out ?_)
      | (refine wpList_store_row rfl 33 (.tmp 2) (.tmp 43) rfl (w.heap.size + 1) _ rfl rfl 33 _ HZR.out HINF.out HZS.out row_one ?_
         generalize hww : World.setRow _ _ _ = wz
         have HGZ : Hid (wn.grownBy wz (some (w.heap.size + 1))) := by unfold Hid; rw [← hww]; exact only_setRow' _ _ _
         have HBZ : Hid (Blk wz (w.heap.size + 1) 33 (f.row s1 s2 s3 s4 s5).toArray) := by unfold Hid; rw [← hww]; exact cells_setRow HZR.out
         clear hww))
    refine bodyPost_ret (results_cell_row rfl _ _ (w.heap.size + 1) 33 _ _ _ rfl HBZ.out Tryz.underlying33 rfl HINF.out) rfl ?_
    exact ⟨_, rfl, (HAT.out.grown rfl HGZ.out (by omega)).lo rfl (by omega), HKr.out.below.grown HGZ.out (by have := HKr.out.size; omega) (fun k hk => by injection hk with hk; omega)⟩
  have HN0 : Hid (0 < s.n) := Nat.pos_of_ne_zero hn0
  clear hn0
  go_wp2_with (first
    | (go_at_call 126
       refine (HSS.out _ HK3.out.below).mono ?_
       rintro e u ⟨s5, rfl, hs5, hb⟩
       have HS5 := Lib.hid (hs5.lo HK3.out.size)
       have HKs := Lib.hid (HK3.out.later hb)
       have HCs := Lib.hid (HC3.out.later hb)
       clear hb hs5 q21)
    | (with_reducible show wpList _ _ _ (Oper.mk none (.store _ (.tmp 25) _) _ _ _ _ :: _) _ _
       refine wpList_store_mid rfl 31 (.tmp 25) (.tmp 24) rfl w.heap.size 21 (.slice s5.A s5.n s5.c) rfl rfl HKs.out.blk (news := [.slice s5.A s5.n s5.c]) rfl isz_31 (by rw [row_asize]; exact (by decide : 21 + 1 ≤ 22)) (by simp [Value.oneCell']) ?_
       intro wn cn hBn hxn hgn hzn
       have HKt : Hid (KSt w f s1 s2 s3 s4 s5 wn) := HKs.out.put hBn hgn (hxn.trans row_s)
       have HCt := Lib.hid (HCs.out.grown hgn (by omega))
       have HS5t := Lib.hid (HS5.out.grown hgn (by omega))
       have q21 := HKt.out.c21
       clear hBn hxn hgn hzn))
  have h5l : s5.n = Q.length := HS5t.out.len.symm
  obtain ⟨g, c5, h5v, h5b⟩ : ∃ g c5, s5 = ⟨some ⟨g, 0, none⟩, s.n, c5⟩ ∧ w.heap.size + 2 ≤ g := by
    obtain ⟨A5, n5, c5⟩ := s5
    dsimp only at h5l
    rcases (HS5t.out.own _ rfl).2 with ⟨_, h2⟩ | ⟨g, cap, cur, h1, h2, _⟩
    · dsimp only at h2
      have := HN0.out
      have := HSQ.out
      omega
    · unfold Sl.v at h1
      injection h1 with h1 _ h3
      subst h1
      exact ⟨g, c5, by rw [h5l, HSQ.out], h2⟩
  subst h5v
  clear h5l
  have HR0 : Hid (RSt w (w.heap.size + 2) g c5 s.n Q Q 0 wn) := ⟨HS5t.out.own _ rfl, rfl, rfl, h5b, fun z _ hz => absurd hz (by omega), fun _ _ => rfl, fun r hr => (HQ.out r hr).len⟩
  have HG := Lib.hid h5b
  have hbn : s.n ≤ 4611686018427387904 := HS5t.out.bd (by decide)
  clear h5b HKs HCs HK3 HC3 HS5 HS5t q21
  dsimp only at *
  go_loopw [29] (fun v29 wr => ∃ (j : Nat) (R : List (ResC × List Value)), j ≤ s.n ∧ v29 = .int .i64 j ∧ Hid (KSt w f s1 s2 s3 s4 ⟨some ⟨g, 0, none⟩, s.n, c5⟩ wr) ∧ Hid (CC w f s1 s2 s3 s4 wr) ∧ Hid (RSt w (w.heap.size + 2) g c5 s.n Q R j wr)) (fun v29 _ => s.n - (intOf v29).toNat)
  case atStart => exact ⟨0, Q, by omega, rfl, HKt.out, HCt.out, HR0.out⟩
  case round =>
    clear HKt HCt HR0
    obtain ⟨j, R, hj, rfl, HKr, HCr, HRr⟩ := hrel
    have q21 := HKr.out.c21
    dsimp only at q21
    by_cases hlt : j < s.n
    · have hjR : j < R.length := by rw [HRr.out.len, HSQ.out]; exact hlt
      have hjQ : j < Q.length := by rw [HSQ.out]; exact hlt
      have hxq : R[j]? = Q[j]? := HRr.out.rest j (Nat.le_refl _)
      have hxq' : R[j] = Q[j] := by rw [List.getElem?_eq_getElem hjR, List.getElem?_eq_getElem hjQ] at hxq; injection hxq
      have hrow := HRr.out.row hjR (by rw [HRr.out.len, HSQ.out])
      have hih := HIH.out _ (List.getElem_mem hjQ)
      have hat := HQ.out _ (List.getElem_mem hjQ)
      rw [hxq'] at hrow
      have HXE : Hid ((Q[j]).1 = (R[j]).1) := by unfold Hid; rw [hxq']
      obtain ⟨⟨x, xc⟩, hx⟩ : ∃ q, q = Q[j] := ⟨_, rfl⟩
      rw [← hx] at hrow hih hat HXE
      dsimp only at hrow hih hat HXE
      have HIX := Lib.hid hih
      have HJR := Lib.hid hjR
      have ZX : Hid ((Tryz.prog.info? 33).map (·.size) = some xc.length) := by unfold Hid; rw [hat.len]; exact isz_33
      have CS : Hid (∀ {W}, Below wr.heap.size wr W → W.cell? ⟨w.heap.size, 21, none⟩ = some (.slice (some ⟨g, 0, none⟩) s.n c5)) := fun {W} hW => (HKr.out.later hW).c21
      have CR : Hid (∀ {W}, Below wr.heap.size wr W → ∀ k v, xc[k]? = some v → W.cell? ((⟨g, j * 22, none⟩ : Addr).add k) = some v) := fun {W} hW k v hk => by
        have h1 := hrow k v hk
        exact (hW.cell (cell_lt h1)).trans h1
      have CJ : Hid (∀ W, Below wr.heap.size wr W → Calls Tryz.prog 69 #[.agg xc.toArray] W fun e w' => ∃ v, e = .returned v ∧ (∃ xc' : List Value, v = .agg xc'.toArray ∧ At w' (some wr.heap.size) x xc') ∧ Below W.heap.size W w') := fun W hW => (HIX.out W (HKr.out.below.trans (hW.mono HKr.out.below.size))).mono fun e w' ⟨xc', h1, h2, h3⟩ => ⟨_, h1, ⟨xc', rfl, h2.lo rfl hW.size⟩, h3⟩
      clear hx hxq hxq' hrow hih hat hjQ q21
      go_wp2_with (fail)
      obtain ⟨x32, H32⟩ : ∃ x : Value, Hid (x = .pointer (some ⟨w.heap.size, 21, none⟩)) := ⟨_, rfl⟩
      obtain ⟨x33, H33⟩ : ∃ x : Value, Hid (x = .slice (some ⟨g, 0, none⟩) s.n c5) := ⟨_, rfl⟩
      obtain ⟨x34, H34⟩ : ∃ x : Value, Hid (x = .int .i64 (j : Int)) := ⟨_, rfl⟩
      obtain ⟨x35, H35⟩ : ∃ x : Value, Hid (x = .pointer (some ⟨w.heap.size, 21, none⟩)) := ⟨_, rfl⟩
      obtain ⟨x36, H36⟩ : ∃ x : Value, Hid (x = .slice (some ⟨g, 0, none⟩) s.n c5) := ⟨_, rfl⟩
      obtain ⟨x37, H37⟩ : ∃ x : Value, Hid (x = .int .i64 (j : Int)) := ⟨_, rfl⟩
      obtain ⟨x38, H38⟩ : ∃ x : Value, Hid (x = .pointer (some ⟨g, j * 22, none⟩)) := ⟨_, rfl⟩
      obtain ⟨x39, H39⟩ : ∃ x : Value, Hid (x = .agg xc.toArray) := ⟨_, rfl⟩
      refine wp_region_tail (w0 := wr) 10 rfl (.inl x32 ::
    .inl x33 ::
    .inl x34 ::
    .inl x35 ::
    .inl x36 ::
    .inl x37 ::
    .inl x38 ::
    .inl x39 ::
    .inr (fun v W => ∃ xc' : List Value, v = .agg xc'.toArray ∧ At W (some wr.heap.size) x xc') ::
    .inl (.pointer (some ⟨g, j * 22, none⟩)) :: []) rfl (by as_aux_lemma => kernel_rfl) (by as_aux_lemma => kernel_rfl) (by as_aux_lemma => kernel_rfl) (by as_aux_lemma => kernel_rfl) (by as_aux_lemma => kernel_rfl) (by
        intro p hp
        simp only [List.mem_cons, reduceCtorEq, Sum.inr.injEq, List.not_mem_nil, or_false, false_or] at hp
        subst hp
        rintro v W W' ⟨xc', h1, h2⟩ hb
        exact ⟨xc', h1, h2.later hb⟩) ⟨fun ac W hb hold hdep K hK => op_u (u := .pointer (some ⟨w.heap.size, 21, none⟩)) rfl (r_field 33 _ 9 rfl (eval_tmp ((hold 1 (free_slot (by as_aux_lemma => kernel_rfl))).trans rfl)) Tryz.underlying33 rfl (n := 0) isz_31 rfl) (hK _ _ H32.out.symm (Below.refl _ _)),
        fun ac W hb hold hdep K hK => op_u (u := .slice (some ⟨g, 0, none⟩) s.n c5) rfl (r_load 31 _ rfl (eval_tmp ((dep_val (hdep ⟨0, .data⟩ (by simp) rfl 32 rfl)).trans (congrArg some H32.out))) (CS.out hb) Tryz.underlying31 rfl) (hK _ _ H33.out.symm (Below.refl _ _)),
        fun ac W hb hold hdep K hK => op_u (u := .int .i64 (j : Int)) rfl (r_move _ rfl (eval_tmp ((hold 3 (free_slot (by as_aux_lemma => kernel_rfl))).trans rfl))) (hK _ _ H34.out.symm (Below.refl _ _)),
        fun ac W hb hold hdep K hK => op_u (u := .pointer (some ⟨w.heap.size, 21, none⟩)) rfl (r_field 33 _ 9 rfl (eval_tmp ((hold 1 (free_slot (by as_aux_lemma => kernel_rfl))).trans rfl)) Tryz.underlying33 rfl (n := 0) isz_31 rfl) (hK _ _ H35.out.symm (Below.refl _ _)),
        fun ac W hb hold hdep K hK => op_u (u := .slice (some ⟨g, 0, none⟩) s.n c5) rfl (r_load 31 _ rfl (eval_tmp ((dep_val (hdep ⟨3, .data⟩ (by simp) rfl 35 rfl)).trans (congrArg some H35.out))) (CS.out hb) Tryz.underlying31 rfl) (hK _ _ H36.out.symm (Below.refl _ _)),
        fun ac W hb hold hdep K hK => op_u (u := .int .i64 (j : Int)) rfl (r_move _ rfl (eval_tmp ((hold 3 (free_slot (by as_aux_lemma => kernel_rfl))).trans rfl))) (hK _ _ H37.out.symm (Below.refl _ _)),
        fun ac W hb hold hdep K hK => op_u (u := .pointer (some ⟨g, j * 22, none⟩)) rfl (r_index 31 _ _ rfl (eval_tmp ((dep_val (hdep ⟨4, .data⟩ (by simp) rfl 36 rfl)).trans (congrArg some H36.out))) (eval_tmp ((dep_val (hdep ⟨5, .data⟩ (by simp) rfl 37 rfl)).trans (congrArg some H37.out))) hlt Tryz.underlying31 isz_33 (by rw [Go.WideShapes.add_plain, Nat.zero_add])) (hK _ _ H38.out.symm (Below.refl _ _)),
        fun ac W hb hold hdep K hK => op_u (u := .agg xc.toArray) rfl (r_load_row 33 _ rfl (eval_tmp ((dep_val (hdep ⟨6, .data⟩ (by simp) rfl 38 rfl)).trans (congrArg some H38.out))) xc (CR.out hb) Tryz.underlying33 rfl ZX.out) (hK _ _ H39.out.symm (Below.refl _ _)),
        fun ac W hb hold hdep K hK => op_callR rfl 69 _ _ rfl (#[.agg xc.toArray]) (by simp [(eval_tmp ((dep_val (hdep ⟨7, .data⟩ (by simp) rfl 39 rfl)).trans (congrArg some H39.out)))]) Tryz.func69 (by as_aux_lemma => kernel_rfl) (by as_aux_lemma => kernel_rfl) (CJ.out W hb) (fun v w' hv hbl => hK _ _ hv hbl),
        fun ac W hb hold hdep K hK => op_u (u := .pointer (some ⟨g, j * 22, none⟩)) rfl (r_index 31 _ _ rfl (eval_tmp ((dep_val (hdep ⟨1, .data⟩ (by simp) rfl 33 rfl)).trans (congrArg some H33.out))) (eval_tmp ((dep_val (hdep ⟨2, .data⟩ (by simp) rfl 34 rfl)).trans (congrArg some H34.out))) hlt Tryz.underlying31 isz_33 (by rw [Go.WideShapes.add_plain, Nat.zero_add])) (hK _ _ rfl (Below.refl _ _)), trivial⟩ ?_
      intro w3 hb3
      simp only [Fin, List.take_succ_cons, List.take_zero, Act.put, List.setIfInBounds_toArray, List.set_cons_zero, List.set_cons_succ]
      rintro v40 ⟨xc', rfl, hx'⟩
      clear H32 H33 H34 H35 H36 H37 H38 H39
      have HK3 := Lib.hid (HKr.out.later hb3)
      have HC3 := Lib.hid (HCr.out.later hb3)
      have HR3 := Lib.hid (HRr.out.later hb3)
      have hgw : g < wr.heap.size := by
        obtain ⟨cur, h1, _⟩ := HRr.out.blk (by rw [HRr.out.len, HSQ.out])
        exact h1.lt
      have hx2 : At w3 (some (g + 1)) x xc' := hx'.lo rfl hgw
      obtain ⟨cur, hcur, hcn, _⟩ := HR3.out.blk (by rw [HR3.out.len, HSQ.out])
      have hx22 := hx2.len
      have hxone : ∀ v ∈ xc', v.oneCell' = true := fun v hv => by
        have := hx2.one
        rw [Array.all_eq_true_iff_forall_mem] at this
        exact this v (by simpa using hv)
      refine stepL_store_mid rfl 33 (.tmp 41) (.tmp 40) rfl g (j * 22) (.agg xc'.toArray) rfl rfl hcur (news := xc') rfl (by rw [hx22]; exact isz_33) (by rw [hx22]; omega) hxone ?_
      intro w4 cn hBn hxn hgn hzn
      have hgk : w.heap.size ≤ g := by have := HG.out; omega
      have HR4 : Hid (RSt w (w.heap.size + 2) g c5 s.n Q (R.set j (x, xc')) (j + 1) w4) := HR3.out.set (by rw [HR3.out.len, HSQ.out]) HJR.out hx2 HXE.out hcur hBn hxn hgn
      have HK4 := Lib.hid (HK3.out.far hgn HG.out)
      have HC4 := Lib.hid (HC3.out.rows hgn hcur)
      clear hx' hx2 hcur hcn hx22 hxone hBn hxn hgn hzn hgk hgw hb3
      go_wp2
      go_roundw
      case rel => exact ⟨j + 1, R.set j (x, xc'), by omega, by go_num, HK4.out, HC4.out, HR4.out⟩
      case measure => simp [intOf]; omega
    · obtain rfl : j = s.n := by omega
      have HAT : Hid (At wr (some (w.heap.size + 2)) (.mk f (Q.map Prod.fst)) (f.row s1 s2 s3 s4 ⟨some ⟨g, 0, none⟩, s.n, c5⟩)) := by
        unfold Hid
        refine clone_end HOK.out HCr.out ?_ ?_ HRr.out.fst
        · have := SlAt.of_own (bytes := 240) HRr.out.own HREA.out
          rw [HRr.out.len, HSQ.out]
          exact this
        · intro r hr
          obtain ⟨z, hz, rfl⟩ := List.mem_iff_getElem.1 hr
          exact (HRr.out.done z hz (by rw [← HSQ.out, ← HRr.out.len]; exact hz)).lo rfl (by have := HG.out; omega)
      clear q21 hlt hj
      obtain ⟨zr, hz1', hz2'⟩ := HKr.out.res
      have HZR := Lib.hid hz1'
      have hzs : zr.size = 22 := hz2'
      have HINF : Hid ((Tryz.prog.info? 33).map (·.size) = some (f.row s1 s2 s3 s4 ⟨some ⟨g, 0, none⟩, s.n, c5⟩).toArray.size) := by unfold Hid; rw [row_asize]; exact isz_33
      have HZS : Hid (zr.size = (f.row s1 s2 s3 s4 ⟨some ⟨g, 0, none⟩, s.n, c5⟩).toArray.size) := by unfold Hid; rw [row_asize]; exact hzs
      clear hz1' hz2' hzs
      go_wp2_with (first
        | (refine wpList_load_row rfl 33 (.tmp 1) rfl w.heap.size rfl 33 _ _ _ HKr.out.blk Tryz.underlying33 rfl HINF.out ?_)
        | (refine wpList_store_row rfl 33 (.tmp 2) (.tmp 43) rfl (w.heap.size + 1) _ rfl rfl 33 _ HZR.out HINF.out HZS.out row_one ?_
           generalize hww : World.setRow _ _ _ = wz
           have HGZ : Hid (wr.grownBy wz (some (w.heap.size + 1))) := by unfold Hid; rw [← hww]; exact only_setRow' _ _ _
           have HBZ : Hid (Blk wz (w.heap.size + 1) 33 (f.row s1 s2 s3 s4 ⟨some ⟨g, 0, none⟩, s.n, c5⟩).toArray) := by unfold Hid; rw [← hww]; exact cells_setRow HZR.out
           clear hww))
      refine bodyPost_ret (results_cell_row rfl _ _ (w.heap.size + 1) 33 _ _ _ rfl HBZ.out Tryz.underlying33 rfl HINF.out) rfl ?_
      exact ⟨_, rfl, (HAT.out.grown rfl HGZ.out (by omega)).lo rfl (by omega), HKr.out.below.grown HGZ.out (by have := HKr.out.size; omega) (fun k hk => by injection hk with hk; omega)⟩
theorem resClone_any {w : World} {lo : Option Nat} {x : ResC} {cs : List Value} (h : At w lo x cs) : ∀ W, Below w.heap.size w W → Calls Tryz.prog 69 #[.agg cs.toArray] W (Cloned W x) := by
  induction h with
  | mk f d a k i s Q ok hd ha hk hi hs hQ ih =>
    intro W hW
    exact clone_walk f d a k i s Q W ok (hd.later hW) (ha.later hW) (hk.later hW) (hi.later hW) (hs.later hW) (fun q hq => (hQ q hq).later hW) (fun q hq W' hW' => ih q hq W' (hW.trans (hW'.mono hW.size))) _ rfl
end Go.Proofs.YtnbaajplelchjaaGreatDoor
