/- ops.own: its walk. (printed by gen_p14.py) -/
import Derived.Test.YtpjjnmdfgcfnmaaGreatDoorOq14
set_option linter.unusedVariables false
set_option linter.unusedSimpArgs false
namespace Go.Proofs.YtpjjnmdfgcfnmaaGreatDoor
open Go.RowKit

theorem row_one (f : OpF) (d a k0 k1 k2 k3 k4 i s : Sl) : (f.row d a k0 k1 k2 k3 k4 i s).toArray.all (·.oneCell') = true := by
  simp [OpF.row, Sl.v, Value.oneCell']
theorem zer_acl : ((Tryz.prog.info? 104).bind (·.zero)).map (·.cells.size) = some 3 := by kernel_rfl
theorem zer_id : ((Tryz.prog.info? 102).bind (·.zero)).map (·.cells.size) = some 2 := by kernel_rfl
theorem row_cells {w : World} {g : Nat} {T : TypeId} {cs : List Value} (h : Blk w g T cs.toArray) : ∀ k v, cs[k]? = some v → w.cell? ((⟨g, 0, none⟩ : Addr).add k) = some v := fun k v hv => by
  rw [Go.WideShapes.add_plain, Nat.zero_add, h.cell k]
  simpa using hv
theorem idCells_snoc (L : List (ByteArray × ByteArray)) (x : ByteArray × ByteArray) : idCells (L ++ [x]) = idCells L ++ [.string x.1, .string x.2] := by simp [idCells]
theorem mark {p : Prop} (h : Hid p) : p := h.out
set_option maxRecDepth 100000 in
set_option maxHeartbeats 8000000 in
theorem own_of {lo : Option Nat} (f : OpF) (d a k0 k1 k2 k3 k4 i s : Sl) {len : Nat} {xs : List Value} (w : World) (h : FAt w lo f d a k0 k1 k2 k3 k4 i) (hs : SlAt w lo 29 19 296 s len xs) (ok : f.Ok) (E : Env w) (hsum : f.texts.length * 16 ≤ 140737488355328) (hids : (f.I.length + f.L.length) * 32 ≤ 140737488355328) (HKT : f.t ∈ ownTypes → ∀ W, Calls Tryz.prog 112 #[.agg (f.row d a k0 k1 k2 k3 k4 i s).toArray] W fun e w' => e = .returned (.agg (keptRow f d a k0 k1 k2 k3 k4 i s).toArray) ∧ Below W.heap.size W w') (cs : Array Value) (hcs : cs = (f.row d a k0 k1 k2 k3 k4 i s).toArray) :
    Calls Tryz.prog 71 #[.agg cs] w fun e w' => e = .returned (.int .i64 (ownE f s.n)) ∧ Below w.heap.size w w' := by
  obtain ⟨w1, hw1⟩ : ∃ w1, w.alloc (.cells cs 29) = w1 := ⟨_, rfl⟩
  have hz1 : w1.heap.size = w.heap.size + 1 := by rw [← hw1]; simp
  have hb1 : Below w.heap.size w w1 := by rw [← hw1]; exact (Below.refl _ _).alloc (Nat.le_refl _) _
  have hn1 : Blk w1 w.heap.size 29 (f.row d a k0 k1 k2 k3 k4 i s).toArray := by rw [← hcs, ← hw1]; exact Blk.new _ _ _
  have c0 : w1.cell? ⟨w.heap.size, 0, none⟩ = some (.int .i32 f.t) := blk_cell hn1 0 rfl
  have HN1 := Lib.hid hn1
  have HB1 := Lib.hid hb1
  have HKIND : Hid (∀ W, Calls Tryz.prog 11 #[.int .i32 f.t] W fun e w' => e = .returned (.int .i64 (kindN f.t)) ∧ w' = W) := fun W => kind_any f.t W
  by_cases hk : kindN f.t = 0
  · have HE : Hid (ownE f s.n = 110) := by unfold Hid ownE; rw [if_pos hk]
    rw [HE.out]
    rw [hk] at HKIND
    clear hb1 hn1 h hs ok E hsum hids hcs hk HKT
    go_enter Tryz.func71, Tryz.ntmps71
    go_wp2_with (go_at_call 11; refine (HKIND.out _).mono ?_; rintro e w2 ⟨rfl, he⟩; obtain rfl := he.symm)
    go_ret
    exact ⟨rfl, HB1.out⟩
  have HKP := Lib.hid (HKT (kind_types hk))
  clear HKT
  have hkb : (kindN f.t == 0) = false := by simpa using hk
  have HE0 : ownE f s.n = if bigB f s.n then 3 else if oddB f s.n then 1 else 0 := by unfold ownE; rw [if_neg hk]
  obtain ⟨r, hr⟩ : ∃ r, r = ownE f s.n := ⟨_, rfl⟩
  rw [← hr] at HE0 ⊢
  have HE := Lib.hid HE0
  clear hr HE0
  have h1 : FAt w1 lo f d a k0 k1 k2 k3 k4 i := h.later hb1
  have HCI : Hid (∀ W, Below w1.heap.size w1 W → Calls Tryz.prog 68 #[.slice i.A i.n i.c] W fun e w' => ∃ s' : Sl, e = .returned (.slice s'.A s'.n s'.c) ∧ SlAt w' (some W.heap.size) 102 2 32 s' f.I.length (idCells f.I) ∧ Below W.heap.size W w') := fun W hW => idsClone_any (h1.i.later hW) (idCells_one _)
  have c3 := blk_cell hn1 3 (u := .slice a.A a.n a.c) rfl
  have c13 := blk_cell hn1 17 (u := .slice i.A i.n i.c) rfl
  have HF1 := Lib.hid h1
  have HOK := Lib.hid ok
  have HE1 := Lib.hid (E.below hb1)
  have HSUM := Lib.hid hsum
  have HIDS := Lib.hid hids
  have HLI := Lib.hid h1.i.len
  have HLA := Lib.hid h1.a.len
  have HSL := Lib.hid (hs.later hb1)
  generalize hkq : kindN f.t = kq at HKIND hkb
  obtain ⟨i0, hi0, hz0, hzi1, hzi2⟩ := info_parts id_info
  have hba : a.n ≤ 4611686018427387904 := h1.a.bd (by decide)
  clear hb1 hn1 h hs ok E hsum hids hcs hk h1 hkq
  go_enter Tryz.func71, Tryz.ntmps71
  go_wp2_with (first
    | (go_at_call 11; refine (HKIND.out _).mono ?_; rintro e w2 ⟨rfl, he⟩; obtain rfl := he.symm)
    | (go_at_call 68
       refine (HCI.out _ (Below.refl _ _)).mono ?_
       rintro e w2 ⟨s3, rfl, hs3, hb2⟩
       have HS3 := Lib.hid hs3
       have HB2 := Lib.hid hb2
       have d3 := blk_cell (HN1.out.below hb2 HN1.out.lt) 3 (u := .slice a.A a.n a.c) rfl
       clear hs3 hb2 c0 c3 c13))
  clear d3 hkb HKIND HCI
  go_loopw [3, 21] (fun v3 vi wr => ∃ (k m : Nat) (A3 : Option Addr) (c3 : Nat), k ≤ a.n ∧ m ≤ 4398046511104 ∧ v3 = .slice A3 m c3 ∧ vi = .int .i64 (k : Int) ∧ Hid (wr.ownsRow w1.heap.size 102 2 (.slice A3 m c3) m (idCells (f.I ++ (f.L.take k).map fun x => x.2))) ∧ Hid (m = f.I.length + k) ∧ Hid (Below w1.heap.size w1 wr)) (fun _ vi _ => a.n - (intOf vi).toNat)
  case atStart =>
    refine ⟨0, s3.n, s3.A, s3.c, by omega, ?_, rfl, by go_num, ?_, ?_, HB2.out⟩
    · have h2 := HS3.out.len
      have h3 := HIDS.out
      omega
    · unfold Hid; simpa [Sl.v] using HS3.out.own _ rfl
    · have h2 := HS3.out.len
      unfold Hid
      omega
  case round =>
    clear HS3 HB2
    obtain ⟨k, m, A3, c3, hk, hm, rfl, rfl, HO, HM, HB⟩ := hrel
    by_cases hlt : k < a.n
    · have hkl : k < f.L.length := by rw [HLA.out]; exact hlt
      obtain ⟨b, off, hA, _, hx⟩ := (HF1.out.a.reads.below HB.out).plain (by omega) (by omega)
      obtain ⟨g0, g1, g2⟩ := aclCells_get f.L k hkl
      have x0 := hx _ _ g0
      have x1 := hx _ _ g1
      have x2 := hx _ _ g2
      have htk : (f.L.take (k + 1)).map (fun x => x.2) = (f.L.take k).map (fun x => x.2) ++ [f.L[k].2] := by rw [List.take_succ_eq_append_getElem hkl, List.map_append]; rfl
      obtain ⟨⟨q0, q1, q2⟩, hq⟩ : ∃ q, q = f.L[k] := ⟨_, rfl⟩
      rw [← hq] at x0 x1 x2 htk
      dsimp only at x0 x1 x2 htk
      have HROW : Hid (∀ j v, ([.int .i32 q0, .string q1, .string q2] : List Value)[j]? = some v → wr.cell? ((⟨b, off + k * 3, none⟩ : Addr).add j) = some v) := fun j v hv => by
        rw [Go.WideShapes.add_plain]
        rcases j with _ | _ | _ | j
        · simp at hv; subst hv; simpa using x0
        · simp at hv; subst hv; simpa [Nat.add_assoc] using x1
        · simp at hv; subst hv; simpa [Nat.add_assoc] using x2
        · simp at hv
      have HTK : Hid (idCells (f.I ++ (f.L.take (k + 1)).map fun x => x.2) = idCells (f.I ++ (f.L.take k).map fun x => x.2) ++ [.string q1, .string q2]) := by unfold Hid; rw [htk, ← List.append_assoc, idCells_snoc]
      have hm1 : m + 1 ≤ 4398046511104 := by
        have h2 := HM.out
        have h3 := HIDS.out
        omega
      obtain ⟨w3, hw3⟩ : ∃ w3, wr.alloc (.cells #[.int .i32 q0, .string q1, .string q2] 104) = w3 := ⟨_, rfl⟩
      have hn3 : Blk w3 wr.heap.size 104 #[.int .i32 q0, .string q1, .string q2] := by rw [← hw3]; exact Blk.new _ _ _
      have hb3 : Below wr.heap.size wr w3 := by rw [← hw3]; exact (Below.refl _ _).alloc (Nat.le_refl _) _
      have HR3 : Hid (∀ j v, ([.string q1, .string q2] : List Value)[j]? = some v → w3.cell? ((⟨wr.heap.size, 1, none⟩ : Addr).add j) = some v) := fun j v hv => by
        rw [Go.WideShapes.add_plain]
        rcases j with _ | _ | j
        · simp at hv; subst hv; exact blk_cell hn3 1 rfl
        · simp at hv; subst hv; exact blk_cell hn3 2 rfl
        · simp at hv
      obtain ⟨w4, hw4⟩ : ∃ w4, w3.alloc (.cells #[.string q1, .string q2] 102) = w4 := ⟨_, rfl⟩
      have hn4 : Blk w4 w3.heap.size 102 #[.string q1, .string q2] := by rw [← hw4]; exact Blk.new _ _ _
      have hb4 : Below w3.heap.size w3 w4 := by rw [← hw4]; exact (Below.refl _ _).alloc (Nat.le_refl _) _
      have hb34 : Below wr.heap.size wr w4 := hb3.trans (hb4.mono hb3.size)
      have HO4 := Lib.hid (own_below HO.out hb34)
      have HB4 : Hid (Below w1.heap.size w1 w4) := HB.out.trans (hb34.mono HB.out.size)
      have HRD4 : Hid (Reads w4 w4.heap.size 2 (some ⟨w3.heap.size, 0, none⟩) 1 [.string q1, .string q2]) := ⟨rfl, fun _ => ⟨⟨w3.heap.size, 0, none⟩, rfl, hn4.lt, fun j u hj => row_cells hn4 j u hj⟩⟩
      have HA := Lib.hid hA
      clear x0 x1 x2 g0 g1 g2 hx hkl hq htk hn3 hb3 hn4 hb4 hb34 hA
      rw [HA.out]
      go_wp2_with (first
        | (refine wpList_load_at (by rfl) 104 (.tmp 23) rfl ⟨b, off + k * 3, none⟩ rfl [.int .i32 q0, .string q1, .string q2] _ HROW.out Tryz.underlying104 rfl isz_104 ?_)
        | (refine wpList_newrow rfl rfl 104 rfl 5 rfl (.tmp 24) rfl rfl #[.int .i32 q0, .string q1, .string q2] (fun _ => rfl) (show 5 < 115 by decide) zer_acl isz_104 (by simp [Value.oneCell']) ?_
           rw [hw3])
        | (refine wpList_load_at (by rfl) 102 (.tmp 26) rfl ⟨wr.heap.size, 1, none⟩ rfl [.string q1, .string q2] _ HR3.out Tryz.underlying102 rfl isz_102 ?_)
        | (refine wpList_build1 rfl 26 102 (.tmp 27) rfl (.agg #[.string q1, .string q2]) rfl 2 Tryz.underlying26 isz_102 zer_id (by decide) rfl ?_
           have hc4 : (Value.agg #[.string q1, .string q2]).cells = #[.string q1, .string q2] := rfl
           rw [hc4, hw4]
           clear hc4)
        | (at_builtin
           refine wpList_append_any _ rfl (.tmp 25) (.tmp 28) _ rfl w1.heap.size 102 i0 _ 2 32 Tryz.underlying26 hi0 hz0 hzi1 hzi2 rfl (by decide) (.slice A3 m c3) m _ rfl HO4.out w4.heap.size (some ⟨w3.heap.size, 0, none⟩) 1 1 [.string q1, .string q2] rfl HRD4.out (by simp [Value.oneCell']) (by unfold maxLen; omega) (by omega) HB4.out.size ?_
           intro v5 w5 hown5 hg5 hat5
           obtain ⟨A5, c5, rfl⟩ := slice_form hown5
           have HO5 : Hid (w5.ownsRow w1.heap.size 102 2 (.slice A5 (m + 1) c5) (m + 1) (idCells (f.I ++ (f.L.take (k + 1)).map fun x => x.2))) := (by unfold Hid; rw [HTK.out]; exact hown5)
           have HB5 : Hid (Below w1.heap.size w1 w5) := HB4.out.grown hg5 HB4.out.size (fun q hq => (HO4.out.lt q hq).1)
           clear hown5 hg5 hat5))
      go_roundw
      case measure => simp [intOf]; omega
      exact ⟨k + 1, m + 1, A5, c5, by omega, by omega, rfl, by go_num, HO5.out, (by unfold Hid; have := HM.out; omega), HB5.out⟩
    · have hkn : k = a.n := by omega
      have hids : f.I ++ (f.L.take k).map (fun x => x.2) = f.ids := by
        rw [hkn, ← HLA.out, List.take_length]
        rfl
      rw [hids] at HO
      have HM2 : Hid (f.ids.length = m) := by
        unfold Hid OpF.ids
        rw [List.length_append, List.length_map, HLA.out, HM.out, hkn]
      clear hids hkn HM
      clear HLA HLI HIDS
      have HXL : Hid (∀ W, Below wr.heap.size wr W → ListsAt W w1.heap.size w.heap.size 11 5 [(k0, f.K0), (k1, f.K1), (k2, f.K2), (k3, f.K3), (k4, f.K4)]) := fun W hW => listsAt HF1.out (HB.out.trans (hW.mono HB.out.size)) (HN1.out.below (HB.out.trans (hW.mono HB.out.size)) HN1.out.lt)
      have e0 := HF1.out.k0.len
      have e1 := HF1.out.k1.len
      have e2 := HF1.out.k2.len
      have e3 := HF1.out.k3.len
      have e4 := HF1.out.k4.len
      have hs5 : sumLen [(k0, f.K0), (k1, f.K1), (k2, f.K2), (k3, f.K3), (k4, f.K4)] * 16 ≤ 140737488355328 := by
        have := HSUM.out
        unfold OpF.texts at this
        simp only [List.length_append] at this
        simp only [sumLen, List.map_cons, List.map_nil, List.sum_cons, List.sum_nil]
        omega
      have hXT : ([(k0, f.K0), (k1, f.K1), (k2, f.K2), (k3, f.K3), (k4, f.K4)] : List (Sl × List ByteArray)).flatMap Prod.snd = f.texts := by simp [OpF.texts]
      have HTN : Hid (f.texts.length ≤ 4611686018427387904) := by have := HSUM.out; unfold Hid; omega
      have HCC : Hid (∀ W, Below wr.heap.size wr W → Calls Tryz.prog 104 #[.slice (some ⟨w.heap.size, 11, none⟩) 5 5] W (Concated W f.texts)) := fun W hW => by
        rw [← hXT]
        exact concat_any w.heap.size 11 5 5 w1.heap.size [(k0, f.K0), (k1, f.K1), (k2, f.K2), (k3, f.K3), (k4, f.K4)] W (by decide) (Nat.le_trans HB.out.size hW.size) (Nat.lt_of_lt_of_le HN1.out.lt (Nat.le_trans HB.out.size hW.size)) (HXL.out W hW) hs5
      obtain ⟨mA, hmA⟩ : ∃ x, x = (f.lists.any fun l => decide ((l.length : Int) > 1024)) := ⟨_, rfl⟩
      have hmA2 : (([(k0, f.K0), (k1, f.K1), (k2, f.K2), (k3, f.K3), (k4, f.K4)] : List (Sl × List ByteArray)).any fun x => decide ((x.1.n : Int) > 1024)) = mA := by
        rw [hmA]
        simp only [OpF.lists, List.any_cons, List.any_nil, e0, e1, e2, e3, e4]
      have HCL : Hid (∀ W, Below wr.heap.size wr W → Calls Tryz.prog 105 #[.slice (some ⟨w.heap.size, 11, none⟩) 5 5, .func (.func 106) #[] #[]] W fun e w' => e = .returned (.bool mA) ∧ Below W.heap.size W w') := fun W hW => by
        rw [← hmA2]
        exact has_lists w.heap.size 11 5 5 w1.heap.size [(k0, f.K0), (k1, f.K1), (k2, f.K2), (k3, f.K3), (k4, f.K4)] (fun x => decide ((x.1.n : Int) > 1024)) 106 W (by decide) (Nat.le_trans HB.out.size hW.size) (Nat.lt_of_lt_of_le HN1.out.lt (Nat.le_trans HB.out.size hW.size)) (HXL.out W hW) (enter_fn Tryz.func106 (by as_aux_lemma => kernel_rfl) (by as_aux_lemma => kernel_rfl))
          (fun x hx W' _ => by
            obtain ⟨j, hj, rfl⟩ := List.mem_iff_getElem.1 hx
            exact own1_any _ _ _ W' ((HXL.out W hW).bd j hj))
      obtain ⟨tL, htL⟩ : ∃ x, x = f.texts.any longP := ⟨_, rfl⟩
      obtain ⟨iL, hiL⟩ : ∃ x, x = f.ids.any longI := ⟨_, rfl⟩
      obtain ⟨vP, hvP⟩ : ∃ x, x = validS f.p := ⟨_, rfl⟩
      obtain ⟨iO, hiO⟩ : ∃ x, x = f.ids.any oddI := ⟨_, rfl⟩
      obtain ⟨tO, htO⟩ : ∃ x, x = f.texts.any oddP := ⟨_, rfl⟩
      obtain ⟨pl, hpl⟩ : ∃ x, x = plainB f (keptF f) := ⟨_, rfl⟩
      obtain ⟨kn, hkn⟩ : ∃ x, x = kS tS f.t s := ⟨_, rfl⟩
      have hM : manyB f s.n = ((mA || tL) || (((f.t : Int) == 22) && (decide (((s.n : Int) : Int) > 1024)))) := by
        unfold manyB
        rw [← hmA, ← htL]
      obtain ⟨mB, hmB⟩ : ∃ x, x = ((mA || tL) || (((f.t : Int) == 22) && (decide (((s.n : Int) : Int) > 1024)))) := ⟨_, rfl⟩
      have hBig : bigB f s.n = ((((((decide (((f.p.size : Int) : Int) > 4096)) || (decide (((d.n : Int) : Int) > 1048575))) || (decide (((a.n : Int) : Int) > 16))) || (decide (((i.n : Int) : Int) > 16))) || mB) || iL) := by
        unfold bigB
        rw [hM, ← hmB, ← hiL, HF1.out.d.len, HF1.out.a.len, HF1.out.i.len]
      have hOdd : oddB f s.n = (((((!vP) || iO) || tO) || (!pl)) || (((s.n : Int) : Int) != (kn.n : Int))) := by
        unfold oddB
        rw [← hvP, ← hiO, ← htO, ← hpl, hkn]
        unfold kS
        split <;> rfl
      have HRES : Hid (r = if ((((((decide (((f.p.size : Int) : Int) > 4096)) || (decide (((d.n : Int) : Int) > 1048575))) || (decide (((a.n : Int) : Int) > 16))) || (decide (((i.n : Int) : Int) > 16))) || mB) || iL) then 3 else if (((((!vP) || iO) || tO) || (!pl)) || (((s.n : Int) : Int) != (kn.n : Int))) then 1 else 0) := by
        unfold Hid
        rw [HE.out, hBig, hOdd]
      have HMB := Lib.hid hmB
      have HIL := Lib.hid hiL
      have HTL := Lib.hid htL
      have HVP := Lib.hid hvP
      have HIO := Lib.hid hiO
      have HTO := Lib.hid htO
      have HPL := Lib.hid hpl
      have HKN := Lib.hid hkn
      clear e0 e1 e2 e3 e4 hs5 hXT hmA hmA2 hM hBig hOdd hmB hiL htL hvP hiO htO hpl hkn HE HXL HSUM
      go_wp2_with (first
        | (go_at_call 104
           refine (HCC.out _ (Below.refl _ _)).mono ?_
           rintro e w2 ⟨A6, c6, rfl, ho6, hb6⟩
           have HO6 := Lib.hid ho6
           have HB6 := Lib.hid hb6
           clear ho6 hb6)
        | (go_at_call 105
           refine (HCL.out _ HB6.out).mono ?_
           rintro e wA ⟨rfl, hb⟩
           have HOA := Lib.hid (own_below HO6.out hb)
           have HBA : Hid (Below wr.heap.size wr wA) := HB6.out.trans (hb.mono HB6.out.size)
           clear hb HO6 HB6
           refine Hid.out ?_))
      refine Lib.hid ?_
      iterate 12 go_step
      --MARK38
      have HB1A : Hid (Below w1.heap.size w1 wA) := HB.out.trans (HBA.out.mono HB.out.size)
      have HNA : Hid (Blk wA w.heap.size 29 (f.row d a k0 k1 k2 k3 k4 i s).toArray) := HN1.out.below HB1A.out HN1.out.lt
      have HRA : Hid (Reads wA wA.heap.size 1 A6 f.texts.length (strCells f.texts)) := Reads.of_own HOA.out
      have HR3 : Hid (Reads wA wA.heap.size 2 A3 m (idCells f.ids)) := Reads.of_own (own_below HO.out HBA.out)
      have CB : Hid (∀ W, Below wA.heap.size wA W → Calls Tryz.prog 107 #[.slice A6 f.texts.length c6, .func (.func 108) #[] #[]] W fun e w' => e = .returned (.bool tL) ∧ Below W.heap.size W w') := fun W hW => by
        rw [HTL.out]
        exact has_str A6 _ c6 wA.heap.size f.texts longP 108 W HTN.out hW.size (HRA.out.below hW) (enter_fn Tryz.func108 (by as_aux_lemma => kernel_rfl) (by as_aux_lemma => kernel_rfl)) (fun x _ W' _ => own2_any x W')
      clear HO HOA HCC HCL HTL HB HN1
      obtain ⟨x38, H38⟩ : ∃ x : Value, Hid (x = .bool mA) := ⟨_, rfl⟩
      obtain ⟨x39, H39⟩ : ∃ x : Value, Hid (x = bif (mA == false) then .slice A6 f.texts.length c6 else undef) := ⟨_, rfl⟩
      obtain ⟨x40, H40⟩ : ∃ x : Value, Hid (x = bif (mA == false) then .bool tL else undef) := ⟨_, rfl⟩
      obtain ⟨x41, H41⟩ : ∃ x : Value, Hid (x = .bool (mA || tL)) := ⟨_, rfl⟩
      obtain ⟨x42, H42⟩ : ∃ x : Value, Hid (x = .bool (mA || tL)) := ⟨_, rfl⟩
      obtain ⟨x43, H43⟩ : ∃ x : Value, Hid (x = bif ((mA || tL) == false) then .pointer (some ⟨w.heap.size, 0, none⟩) else undef) := ⟨_, rfl⟩
      obtain ⟨x44, H44⟩ : ∃ x : Value, Hid (x = bif ((mA || tL) == false) then .int .i32 f.t else undef) := ⟨_, rfl⟩
      obtain ⟨x45, H45⟩ : ∃ x : Value, Hid (x = bif ((mA || tL) == false) then .bool ((f.t : Int) == 22) else undef) := ⟨_, rfl⟩
      obtain ⟨x46, H46⟩ : ∃ x : Value, Hid (x = bif ((mA || tL) == false) then .bool ((f.t : Int) == 22) else undef) := ⟨_, rfl⟩
      obtain ⟨x47, H47⟩ : ∃ x : Value, Hid (x = bif (((mA || tL) == false) && (((f.t : Int) == 22) == true)) then .pointer (some ⟨w.heap.size, 18, none⟩) else undef) := ⟨_, rfl⟩
      obtain ⟨x48, H48⟩ : ∃ x : Value, Hid (x = bif (((mA || tL) == false) && (((f.t : Int) == 22) == true)) then .slice s.A s.n s.c else undef) := ⟨_, rfl⟩
      obtain ⟨x49, H49⟩ : ∃ x : Value, Hid (x = bif (((mA || tL) == false) && (((f.t : Int) == 22) == true)) then .int .i64 (s.n : Int) else undef) := ⟨_, rfl⟩
      obtain ⟨x50, H50⟩ : ∃ x : Value, Hid (x = bif (((mA || tL) == false) && (((f.t : Int) == 22) == true)) then .bool (decide (((s.n : Int) : Int) > 1024)) else undef) := ⟨_, rfl⟩
      obtain ⟨x51, H51⟩ : ∃ x : Value, Hid (x = bif ((mA || tL) == false) then .bool (((f.t : Int) == 22) && (decide (((s.n : Int) : Int) > 1024))) else undef) := ⟨_, rfl⟩
      obtain ⟨x52, H52⟩ : ∃ x : Value, Hid (x = .bool ((mA || tL) || (((f.t : Int) == 22) && (decide (((s.n : Int) : Int) > 1024))))) := ⟨_, rfl⟩
      refine wpList_seq (w0 := wA) (.inl x38 ::
    .inl x39 ::
    .inl x40 ::
    .inl x41 ::
    .inl x42 ::
    .inl x43 ::
    .inl x44 ::
    .inl x45 ::
    .inl x46 ::
    .inl x47 ::
    .inl x48 ::
    .inl x49 ::
    .inl x50 ::
    .inl x51 ::
    .inl x52 ::
    .inl (.bool ((mA || tL) || (((f.t : Int) == 22) && (decide (((s.n : Int) : Int) > 1024))))) :: []) rfl (by as_aux_lemma => kernel_rfl) (by as_aux_lemma => kernel_rfl) (nomono rfl) ⟨fun ac W hb hold hdep K hK => op_u (u := .bool mA) rfl (r_move _ rfl (eval_tmp ((hold 37 (free_slot (by as_aux_lemma => kernel_rfl))).trans rfl))) (hK _ _ H38.out.symm (Below.refl _ _)),
        fun ac W hb hold hdep K hK => op_g (u := .slice A6 f.texts.length c6) (want_all rfl rfl ((dep_val (hdep 0 38 (by decide) rfl)).trans (congrArg some H38.out))) (fun hc => r_move _ rfl (eval_tmp ((hold 6 (free_slot (by as_aux_lemma => kernel_rfl))).trans rfl))) (hK _ _ H39.out.symm (Below.refl _ _)),
        fun ac W hb hold hdep K hK => op_call (u := .bool tL) (want_all rfl rfl ((dep_val (hdep 0 38 (by decide) rfl)).trans (congrArg some H38.out))) 107 _ _ rfl (#[.slice A6 f.texts.length c6, .func (.func 108) #[] #[]]) (fun hc => by simp [(eval_if ((dep_val (hdep 1 39 (by decide) rfl)).trans (congrArg some H39.out)) hc), (show ac.eval (.func 108) = .func (.func 108) #[] #[] from rfl)]) Tryz.func107 (by as_aux_lemma => kernel_rfl) (by as_aux_lemma => kernel_rfl) (fun hc => CB.out W hb) (fun w' hbl => hK _ _ H40.out.symm hbl),
        fun ac W hb hold hdep K hK => op_u (u := .bool (mA || tL)) rfl (r_or _ _ _ rfl (eval_tmp ((dep_val (hdep 0 38 (by decide) rfl)).trans (congrArg some H38.out))) rfl (fun hb => eval_if ((dep_val (hdep 2 40 (by decide) rfl)).trans (congrArg some H40.out)) (by simp [hb]))) (hK _ _ H41.out.symm (Below.refl _ _)),
        fun ac W hb hold hdep K hK => op_u (u := .bool (mA || tL)) rfl (r_move _ rfl (eval_tmp ((dep_val (hdep 3 41 (by decide) rfl)).trans (congrArg some H41.out)))) (hK _ _ H42.out.symm (Below.refl _ _)),
        fun ac W hb hold hdep K hK => op_g (u := .pointer (some ⟨w.heap.size, 0, none⟩)) (want_all rfl rfl ((dep_val (hdep 4 42 (by decide) rfl)).trans (congrArg some H42.out))) (fun hc => r_field 29 _ 0 rfl (eval_tmp ((hold 1 (free_slot (by as_aux_lemma => kernel_rfl))).trans rfl)) Tryz.underlying29 rfl (n := 0) isz_21 rfl) (hK _ _ H43.out.symm (Below.refl _ _)),
        fun ac W hb hold hdep K hK => op_g (u := .int .i32 f.t) (want_all rfl rfl ((dep_val (hdep 4 42 (by decide) rfl)).trans (congrArg some H42.out))) (fun hc => r_load 21 _ rfl (eval_if ((dep_val (hdep 5 43 (by decide) rfl)).trans (congrArg some H43.out)) hc) (blk_cell (HNA.out.below hb HNA.out.lt) 0 rfl) Tryz.underlying21 rfl) (hK _ _ H44.out.symm (Below.refl _ _)),
        fun ac W hb hold hdep K hK => op_g (u := .bool ((f.t : Int) == 22)) (want_all rfl rfl ((dep_val (hdep 4 42 (by decide) rfl)).trans (congrArg some H42.out))) (fun hc => r_ieq 21 _ _ _ rfl (eval_if ((dep_val (hdep 6 44 (by decide) rfl)).trans (congrArg some H44.out)) hc) rfl) (hK _ _ H45.out.symm (Below.refl _ _)),
        fun ac W hb hold hdep K hK => op_g (u := .bool ((f.t : Int) == 22)) (want_all rfl rfl ((dep_val (hdep 4 42 (by decide) rfl)).trans (congrArg some H42.out))) (fun hc => r_move _ rfl (eval_if ((dep_val (hdep 7 45 (by decide) rfl)).trans (congrArg some H45.out)) hc)) (hK _ _ H46.out.symm (Below.refl _ _)),
        fun ac W hb hold hdep K hK => op_g (u := .pointer (some ⟨w.heap.size, 18, none⟩)) (want_if rfl rfl ((dep_val (hdep 8 46 (by decide) rfl)).trans (congrArg some H46.out))) (fun hc => r_field 29 _ 14 rfl (eval_tmp ((hold 1 (free_slot (by as_aux_lemma => kernel_rfl))).trans rfl)) Tryz.underlying29 rfl (n := 0) isz_27 rfl) (hK _ _ H47.out.symm (Below.refl _ _)),
        fun ac W hb hold hdep K hK => op_g (u := .slice s.A s.n s.c) (want_if rfl rfl ((dep_val (hdep 8 46 (by decide) rfl)).trans (congrArg some H46.out))) (fun hc => r_load 27 _ rfl (eval_if ((dep_val (hdep 9 47 (by decide) rfl)).trans (congrArg some H47.out)) hc) (blk_cell (HNA.out.below hb HNA.out.lt) 18 rfl) Tryz.underlying27 rfl) (hK _ _ H48.out.symm (Below.refl _ _)),
        fun ac W hb hold hdep K hK => op_g (u := .int .i64 (s.n : Int)) (want_if rfl rfl ((dep_val (hdep 8 46 (by decide) rfl)).trans (congrArg some H46.out))) (fun hc => r_len #[] #[] _ 27 rfl (eval_if ((dep_val (hdep 10 48 (by decide) rfl)).trans (congrArg some H48.out)) hc) Tryz.underlying27) (hK _ _ H49.out.symm (Below.refl _ _)),
        fun ac W hb hold hdep K hK => op_g (u := .bool (decide (((s.n : Int) : Int) > 1024))) (want_if rfl rfl ((dep_val (hdep 8 46 (by decide) rfl)).trans (congrArg some H46.out))) (fun hc => r_igt 3 _ _ _ rfl (eval_if ((dep_val (hdep 11 49 (by decide) rfl)).trans (congrArg some H49.out)) hc) rfl) (hK _ _ H50.out.symm (Below.refl _ _)),
        fun ac W hb hold hdep K hK => op_g (u := .bool (((f.t : Int) == 22) && (decide (((s.n : Int) : Int) > 1024)))) (want_all rfl rfl ((dep_val (hdep 4 42 (by decide) rfl)).trans (congrArg some H42.out))) (fun hc => r_and _ _ _ rfl (eval_if ((dep_val (hdep 8 46 (by decide) rfl)).trans (congrArg some H46.out)) hc) (fun hb => eval_if ((dep_val (hdep 12 50 (by decide) rfl)).trans (congrArg some H50.out)) (by simp [hb, hc])) rfl) (hK _ _ H51.out.symm (Below.refl _ _)),
        fun ac W hb hold hdep K hK => op_u (u := .bool ((mA || tL) || (((f.t : Int) == 22) && (decide (((s.n : Int) : Int) > 1024))))) rfl (r_or _ _ _ rfl (eval_tmp ((dep_val (hdep 4 42 (by decide) rfl)).trans (congrArg some H42.out))) rfl (fun hb => eval_if ((dep_val (hdep 13 51 (by decide) rfl)).trans (congrArg some H51.out)) (by simp [hb]))) (hK _ _ H52.out.symm (Below.refl _ _)),
        fun ac W hb hold hdep K hK => op_u (u := .bool ((mA || tL) || (((f.t : Int) == 22) && (decide (((s.n : Int) : Int) > 1024))))) rfl (r_assign _ rfl (eval_tmp ((dep_val (hdep 14 52 (by decide) rfl)).trans (congrArg some H52.out)))) (hK _ _ rfl (Below.refl _ _)), trivial⟩ ?_
      intro w3 hb3
      simp only [Fin, Act.put, List.setIfInBounds_toArray, List.set_cons_zero, List.set_cons_succ]
      clear H38 H39 H40 H41 H42 H43 H44 H45 H46 H47 H48 H49 H50 H51 H52
      rw [← HMB.out]
      have HB3 := Lib.hid hb3
      have HN3 : Hid (Blk w3 w.heap.size 29 (f.row d a k0 k1 k2 k3 k4 i s).toArray) := HNA.out.below hb3 HNA.out.lt
      have HR14 : Hid (∀ j v, (f.row d a k0 k1 k2 k3 k4 i s)[j]? = some v → w3.cell? ((⟨w.heap.size, 0, none⟩ : Addr).add j) = some v) := row_cells HN3.out
      have HKA : Hid (∀ W, Calls Tryz.prog 112 #[.agg (f.row d a k0 k1 k2 k3 k4 i s).toArray] W fun e w' => e = .returned (.agg (keptRow f d a k0 k1 k2 k3 k4 i s).toArray) ∧ Below W.heap.size W w') := HKP.out
      have HK1 : Hid ((keptRow f d a k0 k1 k2 k3 k4 i s).toArray.all (·.oneCell') = true) := row_one _ _ _ _ _ _ _ _ _ _
      clear hb3 CB
      go_wp2_with (first
        | ((with_reducible show wpList _ _ _ (Oper.mk (some 53) _ _ _ _ _ :: _) _ _)
           refine wpList_load_at (by rfl) 29 (.tmp 1) rfl ⟨w.heap.size, 0, none⟩ rfl (f.row d a k0 k1 k2 k3 k4 i s) _ HR14.out Tryz.underlying29 rfl isz_29 ?_)
        | (go_at_call 112
           refine (HKA.out _).mono ?_
           rintro e wB ⟨rfl, hb⟩
           have HBB := Lib.hid hb
           clear hb
           obtain ⟨wC, hwC⟩ : ∃ wC, wB.alloc (.cells (keptRow f d a k0 k1 k2 k3 k4 i s).toArray 29) = wC := ⟨_, rfl⟩
           have HKC : Hid (Blk wC wB.heap.size 29 (keptRow f d a k0 k1 k2 k3 k4 i s).toArray) := (by unfold Hid; rw [← hwC]; exact Blk.new _ _ _)
           have HBC : Hid (Below wB.heap.size wB wC) := (by unfold Hid; rw [← hwC]; exact (Below.refl _ _).alloc (Nat.le_refl _) _))
        | ((with_reducible show wpList _ _ _ (Oper.mk (some 10) _ _ _ _ _ :: _) _ _)
           refine wpList_newrow rfl rfl 29 rfl 10 rfl (.tmp 54) rfl rfl (keptRow f d a k0 k1 k2 k3 k4 i s).toArray (fun _ => rfl) (show 10 < 115 by decide) zer_op isz_29 HK1.out ?_
           rw [hwC]
           refine Hid.out ?_))
      refine Lib.hid ?_
      simp only [Act.put, List.setIfInBounds_toArray, List.set_cons_zero, List.set_cons_succ]
      iterate 6 go_step
      --MARK56
      have HBAC : Hid (Below wA.heap.size wA wC) := (HB3.out.trans (HBB.out.mono HB3.out.size)).trans (HBC.out.mono (Nat.le_trans HB3.out.size HBB.out.size))
      have HNC : Hid (Blk wC w.heap.size 29 (f.row d a k0 k1 k2 k3 k4 i s).toArray) := HNA.out.below HBAC.out HNA.out.lt
      have C3 : Hid (∀ W, Below wC.heap.size wC W → Calls Tryz.prog 113 #[.slice A3 m c3, .func (.func 109) #[] #[]] W fun e w' => e = .returned (.bool iL) ∧ Below W.heap.size W w') := fun W hW => by
        rw [HIL.out]
        exact has_id A3 _ c3 wA.heap.size f.ids longI 109 W (Nat.le_trans hm (by decide)) (Nat.le_trans HBAC.out.size hW.size) (HR3.out.below (HBAC.out.trans (hW.mono HBAC.out.size))) (enter_fn Tryz.func109 (by as_aux_lemma => kernel_rfl) (by as_aux_lemma => kernel_rfl)) (fun x _ W' _ => own3_any x W')
      clear hwC HBB HBC HKA HK1 HR14 HN3 HB3 HIL
      obtain ⟨x56, H56⟩ : ∃ x : Value, Hid (x = .pointer (some ⟨w.heap.size, 1, none⟩)) := ⟨_, rfl⟩
      obtain ⟨x57, H57⟩ : ∃ x : Value, Hid (x = .string f.p) := ⟨_, rfl⟩
      obtain ⟨x58, H58⟩ : ∃ x : Value, Hid (x = .int .i64 (f.p.size : Int)) := ⟨_, rfl⟩
      obtain ⟨x59, H59⟩ : ∃ x : Value, Hid (x = .bool (decide (((f.p.size : Int) : Int) > 4096))) := ⟨_, rfl⟩
      obtain ⟨x60, H60⟩ : ∃ x : Value, Hid (x = .bool (decide (((f.p.size : Int) : Int) > 4096))) := ⟨_, rfl⟩
      obtain ⟨x61, H61⟩ : ∃ x : Value, Hid (x = bif ((decide (((f.p.size : Int) : Int) > 4096)) == false) then .pointer (some ⟨w.heap.size, 2, none⟩) else undef) := ⟨_, rfl⟩
      obtain ⟨x62, H62⟩ : ∃ x : Value, Hid (x = bif ((decide (((f.p.size : Int) : Int) > 4096)) == false) then .slice d.A d.n d.c else undef) := ⟨_, rfl⟩
      obtain ⟨x63, H63⟩ : ∃ x : Value, Hid (x = bif ((decide (((f.p.size : Int) : Int) > 4096)) == false) then .int .i64 (d.n : Int) else undef) := ⟨_, rfl⟩
      obtain ⟨x64, H64⟩ : ∃ x : Value, Hid (x = bif ((decide (((f.p.size : Int) : Int) > 4096)) == false) then .bool (decide (((d.n : Int) : Int) > 1048575)) else undef) := ⟨_, rfl⟩
      obtain ⟨x65, H65⟩ : ∃ x : Value, Hid (x = .bool ((decide (((f.p.size : Int) : Int) > 4096)) || (decide (((d.n : Int) : Int) > 1048575)))) := ⟨_, rfl⟩
      obtain ⟨x66, H66⟩ : ∃ x : Value, Hid (x = .bool ((decide (((f.p.size : Int) : Int) > 4096)) || (decide (((d.n : Int) : Int) > 1048575)))) := ⟨_, rfl⟩
      obtain ⟨x67, H67⟩ : ∃ x : Value, Hid (x = bif (((decide (((f.p.size : Int) : Int) > 4096)) || (decide (((d.n : Int) : Int) > 1048575))) == false) then .pointer (some ⟨w.heap.size, 3, none⟩) else undef) := ⟨_, rfl⟩
      obtain ⟨x68, H68⟩ : ∃ x : Value, Hid (x = bif (((decide (((f.p.size : Int) : Int) > 4096)) || (decide (((d.n : Int) : Int) > 1048575))) == false) then .slice a.A a.n a.c else undef) := ⟨_, rfl⟩
      obtain ⟨x69, H69⟩ : ∃ x : Value, Hid (x = bif (((decide (((f.p.size : Int) : Int) > 4096)) || (decide (((d.n : Int) : Int) > 1048575))) == false) then .int .i64 (a.n : Int) else undef) := ⟨_, rfl⟩
      obtain ⟨x70, H70⟩ : ∃ x : Value, Hid (x = bif (((decide (((f.p.size : Int) : Int) > 4096)) || (decide (((d.n : Int) : Int) > 1048575))) == false) then .bool (decide (((a.n : Int) : Int) > 16)) else undef) := ⟨_, rfl⟩
      obtain ⟨x71, H71⟩ : ∃ x : Value, Hid (x = .bool (((decide (((f.p.size : Int) : Int) > 4096)) || (decide (((d.n : Int) : Int) > 1048575))) || (decide (((a.n : Int) : Int) > 16)))) := ⟨_, rfl⟩
      obtain ⟨x72, H72⟩ : ∃ x : Value, Hid (x = .bool (((decide (((f.p.size : Int) : Int) > 4096)) || (decide (((d.n : Int) : Int) > 1048575))) || (decide (((a.n : Int) : Int) > 16)))) := ⟨_, rfl⟩
      obtain ⟨x73, H73⟩ : ∃ x : Value, Hid (x = bif ((((decide (((f.p.size : Int) : Int) > 4096)) || (decide (((d.n : Int) : Int) > 1048575))) || (decide (((a.n : Int) : Int) > 16))) == false) then .pointer (some ⟨w.heap.size, 17, none⟩) else undef) := ⟨_, rfl⟩
      obtain ⟨x74, H74⟩ : ∃ x : Value, Hid (x = bif ((((decide (((f.p.size : Int) : Int) > 4096)) || (decide (((d.n : Int) : Int) > 1048575))) || (decide (((a.n : Int) : Int) > 16))) == false) then .slice i.A i.n i.c else undef) := ⟨_, rfl⟩
      obtain ⟨x75, H75⟩ : ∃ x : Value, Hid (x = bif ((((decide (((f.p.size : Int) : Int) > 4096)) || (decide (((d.n : Int) : Int) > 1048575))) || (decide (((a.n : Int) : Int) > 16))) == false) then .int .i64 (i.n : Int) else undef) := ⟨_, rfl⟩
      obtain ⟨x76, H76⟩ : ∃ x : Value, Hid (x = bif ((((decide (((f.p.size : Int) : Int) > 4096)) || (decide (((d.n : Int) : Int) > 1048575))) || (decide (((a.n : Int) : Int) > 16))) == false) then .bool (decide (((i.n : Int) : Int) > 16)) else undef) := ⟨_, rfl⟩
      obtain ⟨x77, H77⟩ : ∃ x : Value, Hid (x = .bool ((((decide (((f.p.size : Int) : Int) > 4096)) || (decide (((d.n : Int) : Int) > 1048575))) || (decide (((a.n : Int) : Int) > 16))) || (decide (((i.n : Int) : Int) > 16)))) := ⟨_, rfl⟩
      obtain ⟨x78, H78⟩ : ∃ x : Value, Hid (x = .bool ((((decide (((f.p.size : Int) : Int) > 4096)) || (decide (((d.n : Int) : Int) > 1048575))) || (decide (((a.n : Int) : Int) > 16))) || (decide (((i.n : Int) : Int) > 16)))) := ⟨_, rfl⟩
      obtain ⟨x79, H79⟩ : ∃ x : Value, Hid (x = bif (((((decide (((f.p.size : Int) : Int) > 4096)) || (decide (((d.n : Int) : Int) > 1048575))) || (decide (((a.n : Int) : Int) > 16))) || (decide (((i.n : Int) : Int) > 16))) == false) then .bool mB else undef) := ⟨_, rfl⟩
      obtain ⟨x80, H80⟩ : ∃ x : Value, Hid (x = .bool (((((decide (((f.p.size : Int) : Int) > 4096)) || (decide (((d.n : Int) : Int) > 1048575))) || (decide (((a.n : Int) : Int) > 16))) || (decide (((i.n : Int) : Int) > 16))) || mB)) := ⟨_, rfl⟩
      obtain ⟨x81, H81⟩ : ∃ x : Value, Hid (x = .bool (((((decide (((f.p.size : Int) : Int) > 4096)) || (decide (((d.n : Int) : Int) > 1048575))) || (decide (((a.n : Int) : Int) > 16))) || (decide (((i.n : Int) : Int) > 16))) || mB)) := ⟨_, rfl⟩
      obtain ⟨x82, H82⟩ : ∃ x : Value, Hid (x = bif ((((((decide (((f.p.size : Int) : Int) > 4096)) || (decide (((d.n : Int) : Int) > 1048575))) || (decide (((a.n : Int) : Int) > 16))) || (decide (((i.n : Int) : Int) > 16))) || mB) == false) then .slice A3 m c3 else undef) := ⟨_, rfl⟩
      obtain ⟨x83, H83⟩ : ∃ x : Value, Hid (x = bif ((((((decide (((f.p.size : Int) : Int) > 4096)) || (decide (((d.n : Int) : Int) > 1048575))) || (decide (((a.n : Int) : Int) > 16))) || (decide (((i.n : Int) : Int) > 16))) || mB) == false) then .func (.func 109) #[] #[] else undef) := ⟨_, rfl⟩
      obtain ⟨x84, H84⟩ : ∃ x : Value, Hid (x = bif ((((((decide (((f.p.size : Int) : Int) > 4096)) || (decide (((d.n : Int) : Int) > 1048575))) || (decide (((a.n : Int) : Int) > 16))) || (decide (((i.n : Int) : Int) > 16))) || mB) == false) then .bool iL else undef) := ⟨_, rfl⟩
      obtain ⟨x85, H85⟩ : ∃ x : Value, Hid (x = .bool ((((((decide (((f.p.size : Int) : Int) > 4096)) || (decide (((d.n : Int) : Int) > 1048575))) || (decide (((a.n : Int) : Int) > 16))) || (decide (((i.n : Int) : Int) > 16))) || mB) || iL)) := ⟨_, rfl⟩
      refine wpList_seq (w0 := wC) (.inl x56 ::
    .inl x57 ::
    .inl x58 ::
    .inl x59 ::
    .inl x60 ::
    .inl x61 ::
    .inl x62 ::
    .inl x63 ::
    .inl x64 ::
    .inl x65 ::
    .inl x66 ::
    .inl x67 ::
    .inl x68 ::
    .inl x69 ::
    .inl x70 ::
    .inl x71 ::
    .inl x72 ::
    .inl x73 ::
    .inl x74 ::
    .inl x75 ::
    .inl x76 ::
    .inl x77 ::
    .inl x78 ::
    .inl x79 ::
    .inl x80 ::
    .inl x81 ::
    .inl x82 ::
    .inl x83 ::
    .inl x84 ::
    .inl x85 ::
    .inl (.bool ((((((decide (((f.p.size : Int) : Int) > 4096)) || (decide (((d.n : Int) : Int) > 1048575))) || (decide (((a.n : Int) : Int) > 16))) || (decide (((i.n : Int) : Int) > 16))) || mB) || iL)) :: []) rfl (by as_aux_lemma => kernel_rfl) (by as_aux_lemma => kernel_rfl) (nomono rfl) ⟨fun ac W hb hold hdep K hK => op_u (u := .pointer (some ⟨w.heap.size, 1, none⟩)) rfl (r_field 29 _ 1 rfl (eval_tmp ((hold 1 (free_slot (by as_aux_lemma => kernel_rfl))).trans rfl)) Tryz.underlying29 rfl (n := 0) isz_9 rfl) (hK _ _ H56.out.symm (Below.refl _ _)),
        fun ac W hb hold hdep K hK => op_u (u := .string f.p) rfl (r_load 9 _ rfl (eval_tmp ((dep_val (hdep 0 56 (by decide) rfl)).trans (congrArg some H56.out))) (blk_cell (HNC.out.below hb HNC.out.lt) 1 rfl) Tryz.underlying9 rfl) (hK _ _ H57.out.symm (Below.refl _ _)),
        fun ac W hb hold hdep K hK => op_u (u := .int .i64 (f.p.size : Int)) rfl (r_lens _ 9 rfl (eval_tmp ((dep_val (hdep 1 57 (by decide) rfl)).trans (congrArg some H57.out))) Tryz.underlying9) (hK _ _ H58.out.symm (Below.refl _ _)),
        fun ac W hb hold hdep K hK => op_u (u := .bool (decide (((f.p.size : Int) : Int) > 4096))) rfl (r_igt 3 _ _ _ rfl (eval_tmp ((dep_val (hdep 2 58 (by decide) rfl)).trans (congrArg some H58.out))) rfl) (hK _ _ H59.out.symm (Below.refl _ _)),
        fun ac W hb hold hdep K hK => op_u (u := .bool (decide (((f.p.size : Int) : Int) > 4096))) rfl (r_move _ rfl (eval_tmp ((dep_val (hdep 3 59 (by decide) rfl)).trans (congrArg some H59.out)))) (hK _ _ H60.out.symm (Below.refl _ _)),
        fun ac W hb hold hdep K hK => op_g (u := .pointer (some ⟨w.heap.size, 2, none⟩)) (want_all rfl rfl ((dep_val (hdep 4 60 (by decide) rfl)).trans (congrArg some H60.out))) (fun hc => r_field 29 _ 2 rfl (eval_tmp ((hold 1 (free_slot (by as_aux_lemma => kernel_rfl))).trans rfl)) Tryz.underlying29 rfl (n := 0) isz_22 rfl) (hK _ _ H61.out.symm (Below.refl _ _)),
        fun ac W hb hold hdep K hK => op_g (u := .slice d.A d.n d.c) (want_all rfl rfl ((dep_val (hdep 4 60 (by decide) rfl)).trans (congrArg some H60.out))) (fun hc => r_load 22 _ rfl (eval_if ((dep_val (hdep 5 61 (by decide) rfl)).trans (congrArg some H61.out)) hc) (blk_cell (HNC.out.below hb HNC.out.lt) 2 rfl) Tryz.underlying22 rfl) (hK _ _ H62.out.symm (Below.refl _ _)),
        fun ac W hb hold hdep K hK => op_g (u := .int .i64 (d.n : Int)) (want_all rfl rfl ((dep_val (hdep 4 60 (by decide) rfl)).trans (congrArg some H60.out))) (fun hc => r_len #[] #[] _ 22 rfl (eval_if ((dep_val (hdep 6 62 (by decide) rfl)).trans (congrArg some H62.out)) hc) Tryz.underlying22) (hK _ _ H63.out.symm (Below.refl _ _)),
        fun ac W hb hold hdep K hK => op_g (u := .bool (decide (((d.n : Int) : Int) > 1048575))) (want_all rfl rfl ((dep_val (hdep 4 60 (by decide) rfl)).trans (congrArg some H60.out))) (fun hc => r_igt 3 _ _ _ rfl (eval_if ((dep_val (hdep 7 63 (by decide) rfl)).trans (congrArg some H63.out)) hc) rfl) (hK _ _ H64.out.symm (Below.refl _ _)),
        fun ac W hb hold hdep K hK => op_u (u := .bool ((decide (((f.p.size : Int) : Int) > 4096)) || (decide (((d.n : Int) : Int) > 1048575)))) rfl (r_or _ _ _ rfl (eval_tmp ((dep_val (hdep 4 60 (by decide) rfl)).trans (congrArg some H60.out))) rfl (fun hb => eval_if ((dep_val (hdep 8 64 (by decide) rfl)).trans (congrArg some H64.out)) (by simp [hb]))) (hK _ _ H65.out.symm (Below.refl _ _)),
        fun ac W hb hold hdep K hK => op_u (u := .bool ((decide (((f.p.size : Int) : Int) > 4096)) || (decide (((d.n : Int) : Int) > 1048575)))) rfl (r_move _ rfl (eval_tmp ((dep_val (hdep 9 65 (by decide) rfl)).trans (congrArg some H65.out)))) (hK _ _ H66.out.symm (Below.refl _ _)),
        fun ac W hb hold hdep K hK => op_g (u := .pointer (some ⟨w.heap.size, 3, none⟩)) (want_all rfl rfl ((dep_val (hdep 10 66 (by decide) rfl)).trans (congrArg some H66.out))) (fun hc => r_field 29 _ 3 rfl (eval_tmp ((hold 1 (free_slot (by as_aux_lemma => kernel_rfl))).trans rfl)) Tryz.underlying29 rfl (n := 0) isz_23 rfl) (hK _ _ H67.out.symm (Below.refl _ _)),
        fun ac W hb hold hdep K hK => op_g (u := .slice a.A a.n a.c) (want_all rfl rfl ((dep_val (hdep 10 66 (by decide) rfl)).trans (congrArg some H66.out))) (fun hc => r_load 23 _ rfl (eval_if ((dep_val (hdep 11 67 (by decide) rfl)).trans (congrArg some H67.out)) hc) (blk_cell (HNC.out.below hb HNC.out.lt) 3 rfl) Tryz.underlying23 rfl) (hK _ _ H68.out.symm (Below.refl _ _)),
        fun ac W hb hold hdep K hK => op_g (u := .int .i64 (a.n : Int)) (want_all rfl rfl ((dep_val (hdep 10 66 (by decide) rfl)).trans (congrArg some H66.out))) (fun hc => r_len #[] #[] _ 23 rfl (eval_if ((dep_val (hdep 12 68 (by decide) rfl)).trans (congrArg some H68.out)) hc) Tryz.underlying23) (hK _ _ H69.out.symm (Below.refl _ _)),
        fun ac W hb hold hdep K hK => op_g (u := .bool (decide (((a.n : Int) : Int) > 16))) (want_all rfl rfl ((dep_val (hdep 10 66 (by decide) rfl)).trans (congrArg some H66.out))) (fun hc => r_igt 3 _ _ _ rfl (eval_if ((dep_val (hdep 13 69 (by decide) rfl)).trans (congrArg some H69.out)) hc) rfl) (hK _ _ H70.out.symm (Below.refl _ _)),
        fun ac W hb hold hdep K hK => op_u (u := .bool (((decide (((f.p.size : Int) : Int) > 4096)) || (decide (((d.n : Int) : Int) > 1048575))) || (decide (((a.n : Int) : Int) > 16)))) rfl (r_or _ _ _ rfl (eval_tmp ((dep_val (hdep 10 66 (by decide) rfl)).trans (congrArg some H66.out))) rfl (fun hb => eval_if ((dep_val (hdep 14 70 (by decide) rfl)).trans (congrArg some H70.out)) (by simp [hb]))) (hK _ _ H71.out.symm (Below.refl _ _)),
        fun ac W hb hold hdep K hK => op_u (u := .bool (((decide (((f.p.size : Int) : Int) > 4096)) || (decide (((d.n : Int) : Int) > 1048575))) || (decide (((a.n : Int) : Int) > 16)))) rfl (r_move _ rfl (eval_tmp ((dep_val (hdep 15 71 (by decide) rfl)).trans (congrArg some H71.out)))) (hK _ _ H72.out.symm (Below.refl _ _)),
        fun ac W hb hold hdep K hK => op_g (u := .pointer (some ⟨w.heap.size, 17, none⟩)) (want_all rfl rfl ((dep_val (hdep 16 72 (by decide) rfl)).trans (congrArg some H72.out))) (fun hc => r_field 29 _ 13 rfl (eval_tmp ((hold 1 (free_slot (by as_aux_lemma => kernel_rfl))).trans rfl)) Tryz.underlying29 rfl (n := 0) isz_26 rfl) (hK _ _ H73.out.symm (Below.refl _ _)),
        fun ac W hb hold hdep K hK => op_g (u := .slice i.A i.n i.c) (want_all rfl rfl ((dep_val (hdep 16 72 (by decide) rfl)).trans (congrArg some H72.out))) (fun hc => r_load 26 _ rfl (eval_if ((dep_val (hdep 17 73 (by decide) rfl)).trans (congrArg some H73.out)) hc) (blk_cell (HNC.out.below hb HNC.out.lt) 17 rfl) Tryz.underlying26 rfl) (hK _ _ H74.out.symm (Below.refl _ _)),
        fun ac W hb hold hdep K hK => op_g (u := .int .i64 (i.n : Int)) (want_all rfl rfl ((dep_val (hdep 16 72 (by decide) rfl)).trans (congrArg some H72.out))) (fun hc => r_len #[] #[] _ 26 rfl (eval_if ((dep_val (hdep 18 74 (by decide) rfl)).trans (congrArg some H74.out)) hc) Tryz.underlying26) (hK _ _ H75.out.symm (Below.refl _ _)),
        fun ac W hb hold hdep K hK => op_g (u := .bool (decide (((i.n : Int) : Int) > 16))) (want_all rfl rfl ((dep_val (hdep 16 72 (by decide) rfl)).trans (congrArg some H72.out))) (fun hc => r_igt 3 _ _ _ rfl (eval_if ((dep_val (hdep 19 75 (by decide) rfl)).trans (congrArg some H75.out)) hc) rfl) (hK _ _ H76.out.symm (Below.refl _ _)),
        fun ac W hb hold hdep K hK => op_u (u := .bool ((((decide (((f.p.size : Int) : Int) > 4096)) || (decide (((d.n : Int) : Int) > 1048575))) || (decide (((a.n : Int) : Int) > 16))) || (decide (((i.n : Int) : Int) > 16)))) rfl (r_or _ _ _ rfl (eval_tmp ((dep_val (hdep 16 72 (by decide) rfl)).trans (congrArg some H72.out))) rfl (fun hb => eval_if ((dep_val (hdep 20 76 (by decide) rfl)).trans (congrArg some H76.out)) (by simp [hb]))) (hK _ _ H77.out.symm (Below.refl _ _)),
        fun ac W hb hold hdep K hK => op_u (u := .bool ((((decide (((f.p.size : Int) : Int) > 4096)) || (decide (((d.n : Int) : Int) > 1048575))) || (decide (((a.n : Int) : Int) > 16))) || (decide (((i.n : Int) : Int) > 16)))) rfl (r_move _ rfl (eval_tmp ((dep_val (hdep 21 77 (by decide) rfl)).trans (congrArg some H77.out)))) (hK _ _ H78.out.symm (Below.refl _ _)),
        fun ac W hb hold hdep K hK => op_g (u := .bool mB) (want_all rfl rfl ((dep_val (hdep 22 78 (by decide) rfl)).trans (congrArg some H78.out))) (fun hc => r_move _ rfl (eval_tmp ((hold 7 (free_slot (by as_aux_lemma => kernel_rfl))).trans rfl))) (hK _ _ H79.out.symm (Below.refl _ _)),
        fun ac W hb hold hdep K hK => op_u (u := .bool (((((decide (((f.p.size : Int) : Int) > 4096)) || (decide (((d.n : Int) : Int) > 1048575))) || (decide (((a.n : Int) : Int) > 16))) || (decide (((i.n : Int) : Int) > 16))) || mB)) rfl (r_or _ _ _ rfl (eval_tmp ((dep_val (hdep 22 78 (by decide) rfl)).trans (congrArg some H78.out))) rfl (fun hb => eval_if ((dep_val (hdep 23 79 (by decide) rfl)).trans (congrArg some H79.out)) (by simp [hb]))) (hK _ _ H80.out.symm (Below.refl _ _)),
        fun ac W hb hold hdep K hK => op_u (u := .bool (((((decide (((f.p.size : Int) : Int) > 4096)) || (decide (((d.n : Int) : Int) > 1048575))) || (decide (((a.n : Int) : Int) > 16))) || (decide (((i.n : Int) : Int) > 16))) || mB)) rfl (r_move _ rfl (eval_tmp ((dep_val (hdep 24 80 (by decide) rfl)).trans (congrArg some H80.out)))) (hK _ _ H81.out.symm (Below.refl _ _)),
        fun ac W hb hold hdep K hK => op_g (u := .slice A3 m c3) (want_all rfl rfl ((dep_val (hdep 25 81 (by decide) rfl)).trans (congrArg some H81.out))) (fun hc => r_move _ rfl (eval_tmp ((hold 3 (free_slot (by as_aux_lemma => kernel_rfl))).trans rfl))) (hK _ _ H82.out.symm (Below.refl _ _)),
        fun ac W hb hold hdep K hK => op_g (u := .func (.func 109) #[] #[]) (want_all rfl rfl ((dep_val (hdep 25 81 (by decide) rfl)).trans (congrArg some H81.out))) (fun hc => r_move _ rfl (eval_tmp ((hold 8 (free_slot (by as_aux_lemma => kernel_rfl))).trans rfl))) (hK _ _ H83.out.symm (Below.refl _ _)),
        fun ac W hb hold hdep K hK => op_call (u := .bool iL) (want_all rfl rfl ((dep_val (hdep 25 81 (by decide) rfl)).trans (congrArg some H81.out))) 113 _ _ rfl (#[.slice A3 m c3, .func (.func 109) #[] #[]]) (fun hc => by simp [(eval_if ((dep_val (hdep 26 82 (by decide) rfl)).trans (congrArg some H82.out)) hc), (eval_if ((dep_val (hdep 27 83 (by decide) rfl)).trans (congrArg some H83.out)) hc)]) Tryz.func113 (by as_aux_lemma => kernel_rfl) (by as_aux_lemma => kernel_rfl) (fun hc => C3.out W hb) (fun w' hbl => hK _ _ H84.out.symm hbl),
        fun ac W hb hold hdep K hK => op_u (u := .bool ((((((decide (((f.p.size : Int) : Int) > 4096)) || (decide (((d.n : Int) : Int) > 1048575))) || (decide (((a.n : Int) : Int) > 16))) || (decide (((i.n : Int) : Int) > 16))) || mB) || iL)) rfl (r_or _ _ _ rfl (eval_tmp ((dep_val (hdep 25 81 (by decide) rfl)).trans (congrArg some H81.out))) rfl (fun hb => eval_if ((dep_val (hdep 28 84 (by decide) rfl)).trans (congrArg some H84.out)) (by simp [hb]))) (hK _ _ H85.out.symm (Below.refl _ _)),
        fun ac W hb hold hdep K hK => op_u (u := .bool ((((((decide (((f.p.size : Int) : Int) > 4096)) || (decide (((d.n : Int) : Int) > 1048575))) || (decide (((a.n : Int) : Int) > 16))) || (decide (((i.n : Int) : Int) > 16))) || mB) || iL)) rfl (r_assign _ rfl (eval_tmp ((dep_val (hdep 29 85 (by decide) rfl)).trans (congrArg some H85.out)))) (hK _ _ rfl (Below.refl _ _)), trivial⟩ ?_
      intro wD hbD
      simp only [Fin, Act.put, List.setIfInBounds_toArray, List.set_cons_zero, List.set_cons_succ]
      clear H56 H57 H58 H59 H60 H61 H62 H63 H64 H65 H66 H67 H68 H69 H70 H71 H72 H73 H74 H75 H76 H77 H78 H79 H80 H81 H82 H83 H84 H85
      have HBD : Hid (Below wA.heap.size wA wD) := HBAC.out.trans (hbD.mono HBAC.out.size)
      have HB1D : Hid (Below w1.heap.size w1 wD) := HB1A.out.trans (HBD.out.mono HB1A.out.size)
      have HKD : Hid (Blk wD wB.heap.size 29 (keptRow f d a k0 k1 k2 k3 k4 i s).toArray) := HKC.out.below hbD HKC.out.lt
      have HND : Hid (Blk wD w.heap.size 29 (f.row d a k0 k1 k2 k3 k4 i s).toArray) := HNC.out.below hbD HNC.out.lt
      have HBW : Hid (Below w.heap.size w wD) := HB1.out.trans (HB1D.out.mono HB1.out.size)
      clear hbD C3 HKC HNC HNA HBAC HBA
      obtain ⟨q15, hq15⟩ : ∃ x, x = ((((((decide (((f.p.size : Int) : Int) > 4096)) || (decide (((d.n : Int) : Int) > 1048575))) || (decide (((a.n : Int) : Int) > 16))) || (decide (((i.n : Int) : Int) > 16))) || mB) || iL) := ⟨_, rfl⟩
      rw [← hq15] at HRES ⊢
      clear hq15
      cases q15
      rotate_left
      · have HR : Hid (r = 3) := HRES.out
        clear HRES
        go_wp2
        go_ret
        exact ⟨by rw [HR.out]; rfl, HBW.out⟩
      have HFD := Lib.hid (HF1.out.later HB1D.out)
      have CV : Hid (∀ W, Below wD.heap.size wD W → Calls Tryz.prog 111 #[.string f.p] W fun e w' => e = .returned (.bool vP) ∧ Below W.heap.size W w') := fun W hW => by
        rw [HVP.out]
        exact vstr_any f.p W (by have := HOK.out.p; unfold reachBytes at this; omega) (HE1.out.below (HB1D.out.trans (hW.mono HB1D.out.size))).tab
      have C4 : Hid (∀ W, Below wD.heap.size wD W → Calls Tryz.prog 113 #[.slice A3 m c3, .func (.func 110) #[] #[]] W fun e w' => e = .returned (.bool iO) ∧ Below W.heap.size W w') := fun W hW => by
        have h2 : Below wA.heap.size wA W := HBD.out.trans (hW.mono HBD.out.size)
        have h3 : Below w1.heap.size w1 W := HB1D.out.trans (hW.mono HB1D.out.size)
        rw [HIO.out]
        exact has_id A3 _ c3 wA.heap.size f.ids oddI 110 W (Nat.le_trans hm (by decide)) h2.size (HR3.out.below h2) (enter_fn Tryz.func110 (by as_aux_lemma => kernel_rfl) (by as_aux_lemma => kernel_rfl)) (fun x hx W' hW' => own4_any x W' (ids_size HOK.out x hx) (HE1.out.below (h3.trans (hW'.mono h3.size))))
      have C5 : Hid (∀ W, Below wD.heap.size wD W → Calls Tryz.prog 107 #[.slice A6 f.texts.length c6, .func (.func 114) #[] #[]] W fun e w' => e = .returned (.bool tO) ∧ Below W.heap.size W w') := fun W hW => by
        have h2 : Below wA.heap.size wA W := HBD.out.trans (hW.mono HBD.out.size)
        have h3 : Below w1.heap.size w1 W := HB1D.out.trans (hW.mono HB1D.out.size)
        rw [HTO.out]
        exact has_str A6 _ c6 wA.heap.size f.texts oddP 114 W HTN.out h2.size (HRA.out.below h2) (enter_fn Tryz.func114 (by as_aux_lemma => kernel_rfl) (by as_aux_lemma => kernel_rfl)) (fun x hx W' hW' => own5_any x W' (texts_size HOK.out x hx) (HE1.out.below (h3.trans (hW'.mono h3.size))))
      have CP : Hid (∀ W, Below wD.heap.size wD W → Calls Tryz.prog 64 #[.agg (f.row d a k0 k1 k2 k3 k4 i s).toArray, .agg (keptRow f d a k0 k1 k2 k3 k4 i s).toArray] W fun e w' => e = .returned (.bool pl) ∧ Below W.heap.size W w') := fun W hW => by
        rw [HPL.out]
        exact plain_any f (keptF f) d a k0 k1 k2 k3 k4 i s _ _ _ _ _ _ _ _ _ W (HFD.out.later hW) (HFD.out.later hW).kept _ _ rfl rfl
      have CR1 : Hid (∀ W, Below wD.heap.size wD W → ∀ j v, (f.row d a k0 k1 k2 k3 k4 i s)[j]? = some v → W.cell? ((⟨w.heap.size, 0, none⟩ : Addr).add j) = some v) := fun W hW => row_cells (HND.out.below hW HND.out.lt)
      have CR2 : Hid (∀ W, Below wD.heap.size wD W → ∀ j v, (keptRow f d a k0 k1 k2 k3 k4 i s)[j]? = some v → W.cell? ((⟨wB.heap.size, 0, none⟩ : Addr).add j) = some v) := fun W hW => row_cells (HKD.out.below hW HKD.out.lt)
      have CR3 : Hid (∀ W, Below wD.heap.size wD W → W.cell? ⟨wB.heap.size, 18, none⟩ = some (.slice kn.A kn.n kn.c)) := fun W hW => by
        rw [HKN.out]
        exact blk_cell (HKD.out.below hW HKD.out.lt) 18 rfl
      have HHR : Hid (r = if (((((!vP) || iO) || tO) || (!pl)) || (((s.n : Int) : Int) != (kn.n : Int))) then 1 else 0) := HRES.out
      clear HRES HVP HIO HTO HPL HKN HFD HRA HR3 HB1A HB1D HMB HTN
      iterate 5 go_step
      --MARK87
      obtain ⟨x87, H87⟩ : ∃ x : Value, Hid (x = .pointer (some ⟨w.heap.size, 1, none⟩)) := ⟨_, rfl⟩
      obtain ⟨x88, H88⟩ : ∃ x : Value, Hid (x = .string f.p) := ⟨_, rfl⟩
      obtain ⟨x89, H89⟩ : ∃ x : Value, Hid (x = .bool vP) := ⟨_, rfl⟩
      obtain ⟨x90, H90⟩ : ∃ x : Value, Hid (x = .bool (!vP)) := ⟨_, rfl⟩
      obtain ⟨x91, H91⟩ : ∃ x : Value, Hid (x = .bool (!vP)) := ⟨_, rfl⟩
      obtain ⟨x92, H92⟩ : ∃ x : Value, Hid (x = bif ((!vP) == false) then .slice A3 m c3 else undef) := ⟨_, rfl⟩
      obtain ⟨x93, H93⟩ : ∃ x : Value, Hid (x = bif ((!vP) == false) then .func (.func 110) #[] #[] else undef) := ⟨_, rfl⟩
      obtain ⟨x94, H94⟩ : ∃ x : Value, Hid (x = bif ((!vP) == false) then .bool iO else undef) := ⟨_, rfl⟩
      obtain ⟨x95, H95⟩ : ∃ x : Value, Hid (x = .bool ((!vP) || iO)) := ⟨_, rfl⟩
      obtain ⟨x96, H96⟩ : ∃ x : Value, Hid (x = .bool ((!vP) || iO)) := ⟨_, rfl⟩
      obtain ⟨x97, H97⟩ : ∃ x : Value, Hid (x = bif (((!vP) || iO) == false) then .slice A6 f.texts.length c6 else undef) := ⟨_, rfl⟩
      obtain ⟨x98, H98⟩ : ∃ x : Value, Hid (x = bif (((!vP) || iO) == false) then .bool tO else undef) := ⟨_, rfl⟩
      obtain ⟨x99, H99⟩ : ∃ x : Value, Hid (x = .bool (((!vP) || iO) || tO)) := ⟨_, rfl⟩
      obtain ⟨x100, H100⟩ : ∃ x : Value, Hid (x = .bool (((!vP) || iO) || tO)) := ⟨_, rfl⟩
      obtain ⟨x101, H101⟩ : ∃ x : Value, Hid (x = bif ((((!vP) || iO) || tO) == false) then .agg (f.row d a k0 k1 k2 k3 k4 i s).toArray else undef) := ⟨_, rfl⟩
      obtain ⟨x102, H102⟩ : ∃ x : Value, Hid (x = bif ((((!vP) || iO) || tO) == false) then .agg (keptRow f d a k0 k1 k2 k3 k4 i s).toArray else undef) := ⟨_, rfl⟩
      obtain ⟨x103, H103⟩ : ∃ x : Value, Hid (x = bif ((((!vP) || iO) || tO) == false) then .bool pl else undef) := ⟨_, rfl⟩
      obtain ⟨x104, H104⟩ : ∃ x : Value, Hid (x = bif ((((!vP) || iO) || tO) == false) then .bool (!pl) else undef) := ⟨_, rfl⟩
      obtain ⟨x105, H105⟩ : ∃ x : Value, Hid (x = .bool ((((!vP) || iO) || tO) || (!pl))) := ⟨_, rfl⟩
      obtain ⟨x106, H106⟩ : ∃ x : Value, Hid (x = .bool ((((!vP) || iO) || tO) || (!pl))) := ⟨_, rfl⟩
      obtain ⟨x107, H107⟩ : ∃ x : Value, Hid (x = bif (((((!vP) || iO) || tO) || (!pl)) == false) then .pointer (some ⟨w.heap.size, 18, none⟩) else undef) := ⟨_, rfl⟩
      obtain ⟨x108, H108⟩ : ∃ x : Value, Hid (x = bif (((((!vP) || iO) || tO) || (!pl)) == false) then .slice s.A s.n s.c else undef) := ⟨_, rfl⟩
      obtain ⟨x109, H109⟩ : ∃ x : Value, Hid (x = bif (((((!vP) || iO) || tO) || (!pl)) == false) then .int .i64 (s.n : Int) else undef) := ⟨_, rfl⟩
      obtain ⟨x110, H110⟩ : ∃ x : Value, Hid (x = bif (((((!vP) || iO) || tO) || (!pl)) == false) then .pointer (some ⟨wB.heap.size, 18, none⟩) else undef) := ⟨_, rfl⟩
      obtain ⟨x111, H111⟩ : ∃ x : Value, Hid (x = bif (((((!vP) || iO) || tO) || (!pl)) == false) then .slice kn.A kn.n kn.c else undef) := ⟨_, rfl⟩
      obtain ⟨x112, H112⟩ : ∃ x : Value, Hid (x = bif (((((!vP) || iO) || tO) || (!pl)) == false) then .int .i64 (kn.n : Int) else undef) := ⟨_, rfl⟩
      obtain ⟨x113, H113⟩ : ∃ x : Value, Hid (x = bif (((((!vP) || iO) || tO) || (!pl)) == false) then .bool (((s.n : Int) : Int) != (kn.n : Int)) else undef) := ⟨_, rfl⟩
      obtain ⟨x114, H114⟩ : ∃ x : Value, Hid (x = .bool (((((!vP) || iO) || tO) || (!pl)) || (((s.n : Int) : Int) != (kn.n : Int)))) := ⟨_, rfl⟩
      refine wpList_seq (w0 := wD) (.inl x87 ::
    .inl x88 ::
    .inl x89 ::
    .inl x90 ::
    .inl x91 ::
    .inl x92 ::
    .inl x93 ::
    .inl x94 ::
    .inl x95 ::
    .inl x96 ::
    .inl x97 ::
    .inl x98 ::
    .inl x99 ::
    .inl x100 ::
    .inl x101 ::
    .inl x102 ::
    .inl x103 ::
    .inl x104 ::
    .inl x105 ::
    .inl x106 ::
    .inl x107 ::
    .inl x108 ::
    .inl x109 ::
    .inl x110 ::
    .inl x111 ::
    .inl x112 ::
    .inl x113 ::
    .inl x114 ::
    .inl (.bool (((((!vP) || iO) || tO) || (!pl)) || (((s.n : Int) : Int) != (kn.n : Int)))) :: []) rfl (by as_aux_lemma => kernel_rfl) (by as_aux_lemma => kernel_rfl) (nomono rfl) ⟨fun ac W hb hold hdep K hK => op_u (u := .pointer (some ⟨w.heap.size, 1, none⟩)) rfl (r_field 29 _ 1 rfl (eval_tmp ((hold 1 (free_slot (by as_aux_lemma => kernel_rfl))).trans rfl)) Tryz.underlying29 rfl (n := 0) isz_9 rfl) (hK _ _ H87.out.symm (Below.refl _ _)),
        fun ac W hb hold hdep K hK => op_u (u := .string f.p) rfl (r_load 9 _ rfl (eval_tmp ((dep_val (hdep 0 87 (by decide) rfl)).trans (congrArg some H87.out))) (blk_cell (HND.out.below hb HND.out.lt) 1 rfl) Tryz.underlying9 rfl) (hK _ _ H88.out.symm (Below.refl _ _)),
        fun ac W hb hold hdep K hK => op_call (u := .bool vP) (c := true) (want_free rfl) 111 _ _ rfl (#[.string f.p]) (fun hc => by simp [(eval_tmp ((dep_val (hdep 1 88 (by decide) rfl)).trans (congrArg some H88.out)))]) Tryz.func111 (by as_aux_lemma => kernel_rfl) (by as_aux_lemma => kernel_rfl) (fun hc => CV.out W hb) (fun w' hbl => hK _ _ H89.out.symm hbl),
        fun ac W hb hold hdep K hK => op_u (u := .bool (!vP)) rfl (r_not _ _ rfl (eval_tmp ((dep_val (hdep 2 89 (by decide) rfl)).trans (congrArg some H89.out)))) (hK _ _ H90.out.symm (Below.refl _ _)),
        fun ac W hb hold hdep K hK => op_u (u := .bool (!vP)) rfl (r_move _ rfl (eval_tmp ((dep_val (hdep 3 90 (by decide) rfl)).trans (congrArg some H90.out)))) (hK _ _ H91.out.symm (Below.refl _ _)),
        fun ac W hb hold hdep K hK => op_g (u := .slice A3 m c3) (want_all rfl rfl ((dep_val (hdep 4 91 (by decide) rfl)).trans (congrArg some H91.out))) (fun hc => r_move _ rfl (eval_tmp ((hold 3 (free_slot (by as_aux_lemma => kernel_rfl))).trans rfl))) (hK _ _ H92.out.symm (Below.refl _ _)),
        fun ac W hb hold hdep K hK => op_g (u := .func (.func 110) #[] #[]) (want_all rfl rfl ((dep_val (hdep 4 91 (by decide) rfl)).trans (congrArg some H91.out))) (fun hc => r_move _ rfl (eval_tmp ((hold 9 (free_slot (by as_aux_lemma => kernel_rfl))).trans rfl))) (hK _ _ H93.out.symm (Below.refl _ _)),
        fun ac W hb hold hdep K hK => op_call (u := .bool iO) (want_all rfl rfl ((dep_val (hdep 4 91 (by decide) rfl)).trans (congrArg some H91.out))) 113 _ _ rfl (#[.slice A3 m c3, .func (.func 110) #[] #[]]) (fun hc => by simp [(eval_if ((dep_val (hdep 5 92 (by decide) rfl)).trans (congrArg some H92.out)) hc), (eval_if ((dep_val (hdep 6 93 (by decide) rfl)).trans (congrArg some H93.out)) hc)]) Tryz.func113 (by as_aux_lemma => kernel_rfl) (by as_aux_lemma => kernel_rfl) (fun hc => C4.out W hb) (fun w' hbl => hK _ _ H94.out.symm hbl),
        fun ac W hb hold hdep K hK => op_u (u := .bool ((!vP) || iO)) rfl (r_or _ _ _ rfl (eval_tmp ((dep_val (hdep 4 91 (by decide) rfl)).trans (congrArg some H91.out))) rfl (fun hb => eval_if ((dep_val (hdep 7 94 (by decide) rfl)).trans (congrArg some H94.out)) (by simp [hb]))) (hK _ _ H95.out.symm (Below.refl _ _)),
        fun ac W hb hold hdep K hK => op_u (u := .bool ((!vP) || iO)) rfl (r_move _ rfl (eval_tmp ((dep_val (hdep 8 95 (by decide) rfl)).trans (congrArg some H95.out)))) (hK _ _ H96.out.symm (Below.refl _ _)),
        fun ac W hb hold hdep K hK => op_g (u := .slice A6 f.texts.length c6) (want_all rfl rfl ((dep_val (hdep 9 96 (by decide) rfl)).trans (congrArg some H96.out))) (fun hc => r_move _ rfl (eval_tmp ((hold 6 (free_slot (by as_aux_lemma => kernel_rfl))).trans rfl))) (hK _ _ H97.out.symm (Below.refl _ _)),
        fun ac W hb hold hdep K hK => op_call (u := .bool tO) (want_all rfl rfl ((dep_val (hdep 9 96 (by decide) rfl)).trans (congrArg some H96.out))) 107 _ _ rfl (#[.slice A6 f.texts.length c6, .func (.func 114) #[] #[]]) (fun hc => by simp [(eval_if ((dep_val (hdep 10 97 (by decide) rfl)).trans (congrArg some H97.out)) hc), (show ac.eval (.func 114) = .func (.func 114) #[] #[] from rfl)]) Tryz.func107 (by as_aux_lemma => kernel_rfl) (by as_aux_lemma => kernel_rfl) (fun hc => C5.out W hb) (fun w' hbl => hK _ _ H98.out.symm hbl),
        fun ac W hb hold hdep K hK => op_u (u := .bool (((!vP) || iO) || tO)) rfl (r_or _ _ _ rfl (eval_tmp ((dep_val (hdep 9 96 (by decide) rfl)).trans (congrArg some H96.out))) rfl (fun hb => eval_if ((dep_val (hdep 11 98 (by decide) rfl)).trans (congrArg some H98.out)) (by simp [hb]))) (hK _ _ H99.out.symm (Below.refl _ _)),
        fun ac W hb hold hdep K hK => op_u (u := .bool (((!vP) || iO) || tO)) rfl (r_move _ rfl (eval_tmp ((dep_val (hdep 12 99 (by decide) rfl)).trans (congrArg some H99.out)))) (hK _ _ H100.out.symm (Below.refl _ _)),
        fun ac W hb hold hdep K hK => op_g (u := .agg (f.row d a k0 k1 k2 k3 k4 i s).toArray) (want_all rfl rfl ((dep_val (hdep 13 100 (by decide) rfl)).trans (congrArg some H100.out))) (fun hc => r_load_row 29 _ rfl (eval_tmp ((hold 1 (free_slot (by as_aux_lemma => kernel_rfl))).trans rfl)) (f.row d a k0 k1 k2 k3 k4 i s) (CR1.out W hb) Tryz.underlying29 rfl isz_29) (hK _ _ H101.out.symm (Below.refl _ _)),
        fun ac W hb hold hdep K hK => op_g (u := .agg (keptRow f d a k0 k1 k2 k3 k4 i s).toArray) (want_all rfl rfl ((dep_val (hdep 13 100 (by decide) rfl)).trans (congrArg some H100.out))) (fun hc => r_load_row 29 _ rfl (eval_tmp ((hold 10 (free_slot (by as_aux_lemma => kernel_rfl))).trans rfl)) (keptRow f d a k0 k1 k2 k3 k4 i s) (CR2.out W hb) Tryz.underlying29 rfl isz_29) (hK _ _ H102.out.symm (Below.refl _ _)),
        fun ac W hb hold hdep K hK => op_call (u := .bool pl) (want_all rfl rfl ((dep_val (hdep 13 100 (by decide) rfl)).trans (congrArg some H100.out))) 64 _ _ rfl (#[.agg (f.row d a k0 k1 k2 k3 k4 i s).toArray, .agg (keptRow f d a k0 k1 k2 k3 k4 i s).toArray]) (fun hc => by simp [(eval_if ((dep_val (hdep 14 101 (by decide) rfl)).trans (congrArg some H101.out)) hc), (eval_if ((dep_val (hdep 15 102 (by decide) rfl)).trans (congrArg some H102.out)) hc)]) Tryz.func64 (by as_aux_lemma => kernel_rfl) (by as_aux_lemma => kernel_rfl) (fun hc => CP.out W hb) (fun w' hbl => hK _ _ H103.out.symm hbl),
        fun ac W hb hold hdep K hK => op_g (u := .bool (!pl)) (want_all rfl rfl ((dep_val (hdep 13 100 (by decide) rfl)).trans (congrArg some H100.out))) (fun hc => r_not _ _ rfl (eval_if ((dep_val (hdep 16 103 (by decide) rfl)).trans (congrArg some H103.out)) hc)) (hK _ _ H104.out.symm (Below.refl _ _)),
        fun ac W hb hold hdep K hK => op_u (u := .bool ((((!vP) || iO) || tO) || (!pl))) rfl (r_or _ _ _ rfl (eval_tmp ((dep_val (hdep 13 100 (by decide) rfl)).trans (congrArg some H100.out))) rfl (fun hb => eval_if ((dep_val (hdep 17 104 (by decide) rfl)).trans (congrArg some H104.out)) (by simp [hb]))) (hK _ _ H105.out.symm (Below.refl _ _)),
        fun ac W hb hold hdep K hK => op_u (u := .bool ((((!vP) || iO) || tO) || (!pl))) rfl (r_move _ rfl (eval_tmp ((dep_val (hdep 18 105 (by decide) rfl)).trans (congrArg some H105.out)))) (hK _ _ H106.out.symm (Below.refl _ _)),
        fun ac W hb hold hdep K hK => op_g (u := .pointer (some ⟨w.heap.size, 18, none⟩)) (want_all rfl rfl ((dep_val (hdep 19 106 (by decide) rfl)).trans (congrArg some H106.out))) (fun hc => r_field 29 _ 14 rfl (eval_tmp ((hold 1 (free_slot (by as_aux_lemma => kernel_rfl))).trans rfl)) Tryz.underlying29 rfl (n := 0) isz_27 rfl) (hK _ _ H107.out.symm (Below.refl _ _)),
        fun ac W hb hold hdep K hK => op_g (u := .slice s.A s.n s.c) (want_all rfl rfl ((dep_val (hdep 19 106 (by decide) rfl)).trans (congrArg some H106.out))) (fun hc => r_load 27 _ rfl (eval_if ((dep_val (hdep 20 107 (by decide) rfl)).trans (congrArg some H107.out)) hc) (blk_cell (HND.out.below hb HND.out.lt) 18 rfl) Tryz.underlying27 rfl) (hK _ _ H108.out.symm (Below.refl _ _)),
        fun ac W hb hold hdep K hK => op_g (u := .int .i64 (s.n : Int)) (want_all rfl rfl ((dep_val (hdep 19 106 (by decide) rfl)).trans (congrArg some H106.out))) (fun hc => r_len #[] #[] _ 27 rfl (eval_if ((dep_val (hdep 21 108 (by decide) rfl)).trans (congrArg some H108.out)) hc) Tryz.underlying27) (hK _ _ H109.out.symm (Below.refl _ _)),
        fun ac W hb hold hdep K hK => op_g (u := .pointer (some ⟨wB.heap.size, 18, none⟩)) (want_all rfl rfl ((dep_val (hdep 19 106 (by decide) rfl)).trans (congrArg some H106.out))) (fun hc => r_field 29 _ 14 rfl (eval_tmp ((hold 10 (free_slot (by as_aux_lemma => kernel_rfl))).trans rfl)) Tryz.underlying29 rfl (n := 0) isz_27 rfl) (hK _ _ H110.out.symm (Below.refl _ _)),
        fun ac W hb hold hdep K hK => op_g (u := .slice kn.A kn.n kn.c) (want_all rfl rfl ((dep_val (hdep 19 106 (by decide) rfl)).trans (congrArg some H106.out))) (fun hc => r_load 27 _ rfl (eval_if ((dep_val (hdep 23 110 (by decide) rfl)).trans (congrArg some H110.out)) hc) (CR3.out W hb) Tryz.underlying27 rfl) (hK _ _ H111.out.symm (Below.refl _ _)),
        fun ac W hb hold hdep K hK => op_g (u := .int .i64 (kn.n : Int)) (want_all rfl rfl ((dep_val (hdep 19 106 (by decide) rfl)).trans (congrArg some H106.out))) (fun hc => r_len #[] #[] _ 27 rfl (eval_if ((dep_val (hdep 24 111 (by decide) rfl)).trans (congrArg some H111.out)) hc) Tryz.underlying27) (hK _ _ H112.out.symm (Below.refl _ _)),
        fun ac W hb hold hdep K hK => op_g (u := .bool (((s.n : Int) : Int) != (kn.n : Int))) (want_all rfl rfl ((dep_val (hdep 19 106 (by decide) rfl)).trans (congrArg some H106.out))) (fun hc => r_ine 3 _ _ _ rfl (eval_if ((dep_val (hdep 22 109 (by decide) rfl)).trans (congrArg some H109.out)) hc) (eval_if ((dep_val (hdep 25 112 (by decide) rfl)).trans (congrArg some H112.out)) hc)) (hK _ _ H113.out.symm (Below.refl _ _)),
        fun ac W hb hold hdep K hK => op_u (u := .bool (((((!vP) || iO) || tO) || (!pl)) || (((s.n : Int) : Int) != (kn.n : Int)))) rfl (r_or _ _ _ rfl (eval_tmp ((dep_val (hdep 19 106 (by decide) rfl)).trans (congrArg some H106.out))) rfl (fun hb => eval_if ((dep_val (hdep 26 113 (by decide) rfl)).trans (congrArg some H113.out)) (by simp [hb]))) (hK _ _ H114.out.symm (Below.refl _ _)),
        fun ac W hb hold hdep K hK => op_u (u := .bool (((((!vP) || iO) || tO) || (!pl)) || (((s.n : Int) : Int) != (kn.n : Int)))) rfl (r_assign _ rfl (eval_tmp ((dep_val (hdep 27 114 (by decide) rfl)).trans (congrArg some H114.out)))) (hK _ _ rfl (Below.refl _ _)), trivial⟩ ?_
      intro wE hbE
      simp only [Fin, Act.put, List.setIfInBounds_toArray, List.set_cons_zero, List.set_cons_succ]
      clear H87 H88 H89 H90 H91 H92 H93 H94 H95 H96 H97 H98 H99 H100 H101 H102 H103 H104 H105 H106 H107 H108 H109 H110 H111 H112 H113 H114
      have HBE : Hid (Below w.heap.size w wE) := HBW.out.trans (hbE.mono HBW.out.size)
      clear hbE CV C4 C5 CP CR1 CR2 CR3 HND HKD
      obtain ⟨q17, hq17⟩ : ∃ x, x = (((((!vP) || iO) || tO) || (!pl)) || (((s.n : Int) : Int) != (kn.n : Int))) := ⟨_, rfl⟩
      rw [← hq17] at HHR ⊢
      clear hq17
      cases q17
      · have HR : Hid (r = 0) := HHR.out
        clear HHR
        go_wp2
        go_ret
        exact ⟨by rw [HR.out]; rfl, HBE.out⟩
      · have HR : Hid (r = 1) := HHR.out
        clear HHR
        go_wp2
        go_ret
        exact ⟨by rw [HR.out]; rfl, HBE.out⟩
end Go.Proofs.YtpjjnmdfgcfnmaaGreatDoor
