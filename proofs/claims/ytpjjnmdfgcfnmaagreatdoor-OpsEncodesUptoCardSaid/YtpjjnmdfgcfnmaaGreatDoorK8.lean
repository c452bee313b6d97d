/- Part 8 of a proof: lemmas and walks. -/
import Derived.Test.YtpjjnmdfgcfnmaaGreatDoorK7
import Derived.Test.YtpjjnmdfgcfnmaaGreatDoorK4
import Derived.WalkSmall
import Derived.Shelf.Unicode.DecodeSlow
import Derived.Deep.QuietTactic
import Derived.BigQuiet
import Derived.Laws.BitsAllLaws
import Derived.Lib.ValidU
set_option linter.unusedVariables false
set_option linter.unusedSimpArgs false
set_option maxRecDepth 100000
set_option maxHeartbeats 8000000
namespace Go.Proofs.YtpjjnmdfgcfnmaaGreatDoor
open Go.RowKit

abbrev Oq15P1 (vP : Bool) (iO : Bool) (tO : Bool) (pl : Bool) : Bool := ((((!vP) || iO) || tO) || (!pl)) == false
abbrev Oq15P2 (mA : Bool) (tL : Bool) (f : OpF) : Bool := ((mA || tL) == false) && (((f.t : Int) == 22) == true)
abbrev Oq15P3 (f : OpF) (s : Sl) : Bool := ((f.t : Int) == 22) && (decide (((s.n : Int) : Int) > 1024))
abbrev Oq15P4 (mA : Bool) (tL : Bool) (f : OpF) (s : Sl) : Bool := (mA || tL) || (Oq15P3 f s)
abbrev Oq15P5 (f : OpF) (d : Sl) : Bool := (decide (((f.p.size : Int) : Int) > 4096)) || (decide (((d.n : Int) : Int) > 1048575))
abbrev Oq15P6 (f : OpF) (d : Sl) (a : Sl) : Bool := (Oq15P5 f d) || (decide (((a.n : Int) : Int) > 16))
abbrev Oq15P7 (f : OpF) (d : Sl) (a : Sl) (i : Sl) : Bool := (Oq15P6 f d a) || (decide (((i.n : Int) : Int) > 16))
abbrev Oq15P8 (f : OpF) (d : Sl) (a : Sl) (i : Sl) (mB : Bool) (iL : Bool) : Bool := ((Oq15P7 f d a i) || mB) || iL
abbrev Oq15P9 (f : OpF) (d : Sl) (a : Sl) (i : Sl) (mB : Bool) : Bool := ((Oq15P7 f d a i) || mB) == false

theorem row_one (f : OpF) (d a k0 k1 k2 k3 k4 i s : Sl) : (f.row d a k0 k1 k2 k3 k4 i s).toArray.all (·.oneCell') = true := by
 simp [OpF.row, Sl.v, Value.oneCell']
theorem zer_acl : ((Tryz.prog.info? 104).bind (·.zero)).map (·.cells.size) = some 3 := by kernel_rfl
theorem zer_id : ((Tryz.prog.info? 102).bind (·.zero)).map (·.cells.size) = some 2 := by kernel_rfl
theorem row_cells {w : World} {g : Nat} {T : TypeId} {cs : List Value} (h : Blk w g T cs.toArray) : ∀ k v, cs[k]? = some v → w.cell? ((⟨g, 0, none⟩ : Addr).add k) = some v := fun k v hv => by
 rw [zN, Nat.zero_add, h.cell k]
 simpa using hv
theorem idCells_snoc (L : List (ByteArray × ByteArray)) (x : ByteArray × ByteArray) : idCells (L ++ [x]) = idCells L ++ [.string x.1, .string x.2] := by simp [idCells]
theorem mark {p : Prop} (h : Hid p) : p := h.out
theorem own_of {lo : Option Nat} (f : OpF) (d a k0 k1 k2 k3 k4 i s : Sl) {len : Nat} {xs : List Value} (w : World) (h : FAt w lo f d a k0 k1 k2 k3 k4 i) (hs : SlAt w lo 29 19 296 s len xs) (ok : f.Ok) (E : Env w) (hsum : f.texts.length * 16 ≤ 140737488355328) (hids : (f.I.length + f.L.length) * 32 ≤ 140737488355328) (HKT : f.t ∈ ownTypes → ∀ W, Calls Tryz.prog 112 #[.agg (f.row d a k0 k1 k2 k3 k4 i s).toArray] W fun e w' => e = .returned (.agg (keptRow f d a k0 k1 k2 k3 k4 i s).toArray) ∧ Below W.heap.size W w') (cs : Array Value) (hcs : cs = (f.row d a k0 k1 k2 k3 k4 i s).toArray) :
 Calls Tryz.prog 71 #[.agg cs] w fun e w' => e = .returned (.int .i64 (ownE f s.n)) ∧ Below w.heap.size w w' := by
 obtain ⟨w1, hw1⟩ := xa w cs 29
 have hz1 : w1.heap.size = w.heap.size + 1 := by rw [← hw1]; simp
 have hb1 := zV hw1
 have hn1 : Blk w1 w.heap.size 29 (f.row d a k0 k1 k2 k3 k4 i s).toArray := by rw [← hcs, ← hw1]; exact Blk.new _ _ _
 have c0 : w1.cell? ⟨w.heap.size, 0, none⟩ = some (.int .i32 f.t) := yC hn1 0 rfl
 have HN1 := Hi hn1
 have HB1 := Hi hb1
 have HKIND : Hid (∀ W, Calls Tryz.prog 11 #[.int .i32 f.t] W fun e w' => e = .returned (.int .i64 (kindN f.t)) ∧ w' = W) := fun W => kind_any f.t W
 by_cases hk : kindN f.t = 0
 · have HE : Hid (ownE f s.n = 110) := by unfold Hid ownE; rw [if_pos hk]
   rw [HE.out]
   rw [hk] at HKIND
   clear hb1 hn1 h hs ok E hsum hids hcs hk HKT
   go_enter Tryz.func71, Tryz.ntmps71
   go_wp2_with (go_at_call 11; refine (HKIND.out _).mono ?_; rintro e w2 ⟨rfl, he⟩; obtain rfl := he.symm)
   go_ret
   exact ⟨rfl, HB1.out⟩
 have HKP := Hi (HKT (kind_types hk))
 clear HKT
 have hkb : (kindN f.t == 0) = false := by simpa using hk
 have HE0 : ownE f s.n = if bigB f s.n then 3 else if oddB f s.n then 1 else 0 := by unfold ownE; rw [if_neg hk]
 obtain ⟨r, hr⟩ : ∃ r, r = ownE f s.n := ⟨_, rfl⟩
 rw [← hr] at HE0 ⊢
 have HE := Hi HE0
 clear hr HE0
 have h1 : FAt w1 lo f d a k0 k1 k2 k3 k4 i := h.later hb1
 have HCI : Hid (∀ W, Below w1.heap.size w1 W → Calls Tryz.prog 68 #[.slice i.A i.n i.c] W fun e w' => ∃ s' : Sl, e = .returned (.slice s'.A s'.n s'.c) ∧ SlAt w' (some W.heap.size) 102 2 32 s' f.I.length (idCells f.I) ∧ Below W.heap.size W w') := fun W hW => idsClone_any (h1.i.later hW) (idCells_one _)
 have c3 := yC hn1 3 (u := .slice a.A a.n a.c) rfl
 have c13 := yC hn1 17 (u := .slice i.A i.n i.c) rfl
 have HF1 := Hi h1
 have HOK := Hi ok
 have HE1 := Hi (E.below hb1)
 have HSUM := Hi hsum
 have HIDS := Hi hids
 have HLI := Hi h1.i.len
 have HLA := Hi h1.a.len
 have HSL := Hi (hs.later hb1)
 generalize hkq : kindN f.t = kq at HKIND hkb
 obtain ⟨i0, hi0, hz0, hzi1, hzi2⟩ := info_parts id_info
 have hba : a.n ≤ 4611686018427387904 := h1.a.bd (by decide)
 clear hb1 hn1 h hs ok E hsum hids hcs hk h1 hkq
 go_enter Tryz.func71, Tryz.ntmps71
 go_wp2_with (first
  | (go_at_call 11; refine (HKIND.out _).mono ?_; rintro e w2 ⟨rfl, he⟩; obtain rfl := he.symm)
  | (go_at_call 68
     refine (HCI.out _ zT).mono ?_
     rintro e w2 ⟨s3, rfl, hs3, hb2⟩
     have HS3 := Hi hs3
     have HB2 := Hi hb2
     have d3 := yC (HN1.out.below hb2 HN1.out.lt) 3 (u := .slice a.A a.n a.c) rfl
     clear hs3 hb2 c0 c3 c13))
 clear d3 hkb HKIND HCI
 go_loopw [3, 21] (fun v3 vi wr => ∃ (k m : Nat) (A3 : Option Addr) (c3 : Nat), k ≤ a.n ∧ m ≤ 4398046511104 ∧ v3 = .slice A3 m c3 ∧ vi = .int .i64 (k : Int) ∧ Hid (wr.ownsRow w1.heap.size 102 2 (.slice A3 m c3) m (idCells (f.I ++ (f.L.take k).map fun x => x.2))) ∧ Hid (m = f.I.length + k) ∧ Hid (Below w1.heap.size w1 wr)) (fun _ vi _ => a.n - (intOf vi).toNat)
 case atStart =>
  refine ⟨0, s3.n, s3.A, s3.c, by omega, ?_, rfl, by go_num, ?_, ?_, HB2.out⟩
  · have h2 := HS3.out.len
    have h3 := HIDS.out
    omega
  · unfold Hid; simpa [Sl.v] using HS3.out.own _ rfl
  · have h2 := HS3.out.len
    unfold Hid
    omega
 case round =>
  clear HS3 HB2
  obtain ⟨k, m, A3, c3, hk, hm, rfl, rfl, HO, HM, HB⟩ := hrel
  by_cases hlt : k < a.n
  · have hkl : k < f.L.length := by rw [HLA.out]; exact hlt
    obtain ⟨b, off, hA, _, hx⟩ := (HF1.out.a.reads.below HB.out).plain (by omega) (by omega)
    obtain ⟨g0, g1, g2⟩ := aclCells_get f.L k hkl
    have x0 := hx _ _ g0
    have x1 := hx _ _ g1
    have x2 := hx _ _ g2
    have htk : (f.L.take (k + 1)).map (fun x => x.2) = (f.L.take k).map (fun x => x.2) ++ [f.L[k].2] := by rw [List.take_succ_eq_append_getElem hkl, List.map_append]; rfl
    obtain ⟨⟨q0, q1, q2⟩, hq⟩ : ∃ q, q = f.L[k] := ⟨_, rfl⟩
    rw [← hq] at x0 x1 x2 htk
    dsimp only at x0 x1 x2 htk
    have HROW : Hid (∀ j v, ([.int .i32 q0, .string q1, .string q2] : List Value)[j]? = some v → wr.cell? ((⟨b, off + k * 3, none⟩ : Addr).add j) = some v) := fun j v hv => by
     rw [zN]
     rcases j with _ | _ | _ | j
     · simp at hv; subst hv; simpa using x0
     · simp at hv; subst hv; simpa [Nat.add_assoc] using x1
     · simp at hv; subst hv; simpa [Nat.add_assoc] using x2
     · simp at hv
    have HTK : Hid (idCells (f.I ++ (f.L.take (k + 1)).map fun x => x.2) = idCells (f.I ++ (f.L.take k).map fun x => x.2) ++ [.string q1, .string q2]) := by unfold Hid; rw [htk, ← zL, idCells_snoc]
    have hm1 : m + 1 ≤ 4398046511104 := by
     have h2 := HM.out
     have h3 := HIDS.out
     omega
    obtain ⟨w3, hw3⟩ := xa wr #[.int .i32 q0, .string q1, .string q2] 104
    have hn3 := zW hw3
    have hb3 := zV hw3
    have HR3 : Hid (∀ j v, ([.string q1, .string q2] : List Value)[j]? = some v → w3.cell? ((⟨wr.heap.size, 1, none⟩ : Addr).add j) = some v) := fun j v hv => by
     rw [zN]
     rcases j with _ | _ | j
     · simp at hv; subst hv; exact yC hn3 1 rfl
     · simp at hv; subst hv; exact yC hn3 2 rfl
     · simp at hv
    obtain ⟨w4, hw4⟩ := xa w3 #[.string q1, .string q2] 102
    have hn4 := zW hw4
    have hb4 := zV hw4
    have hb34 : Below wr.heap.size wr w4 := hb3.trans (hb4.mono hb3.size)
    have HO4 := Hi (own_below HO.out hb34)
    have HB4 : Hid (Below w1.heap.size w1 w4) := HB.out.trans (hb34.mono HB.out.size)
    have HRD4 : Hid (Reads w4 w4.heap.size 2 (some ⟨w3.heap.size, 0, none⟩) 1 [.string q1, .string q2]) := ⟨rfl, fun _ => ⟨⟨w3.heap.size, 0, none⟩, rfl, hn4.lt, fun j u hj => row_cells hn4 j u hj⟩⟩
    have HA := Hi hA
    clear x0 x1 x2 g0 g1 g2 hx hkl hq htk hn3 hb3 hn4 hb4 hb34 hA
    rw [HA.out]
    go_wp2_with (first
     | (refine wpList_load_at (by rfl) 104 (.tmp 23) rfl ⟨b, off + k * 3, none⟩ rfl [.int .i32 q0, .string q1, .string q2] _ HROW.out zU104 rfl isz_104 ?_)
     | (refine wpList_newrow rfl rfl 104 rfl 5 rfl (.tmp 24) rfl rfl #[.int .i32 q0, .string q1, .string q2] (fun _ => rfl) (show 5 < 115 by decide) zer_acl isz_104 (by simp [Value.oneCell']) ?_
        rw [hw3])
     | (refine wpList_load_at (by rfl) 102 (.tmp 26) rfl ⟨wr.heap.size, 1, none⟩ rfl [.string q1, .string q2] _ HR3.out zU102 rfl isz_102 ?_)
     | (refine wpList_build1 rfl 26 102 (.tmp 27) rfl (.agg #[.string q1, .string q2]) rfl 2 zU26 isz_102 zer_id (by decide) rfl ?_
        have hc4 : (Value.agg #[.string q1, .string q2]).cells = #[.string q1, .string q2] := rfl
        rw [hc4, hw4]
        clear hc4)
     | (at_builtin
        refine wpList_append_any _ rfl (.tmp 25) (.tmp 28) _ rfl w1.heap.size 102 i0 _ 2 32 zU26 hi0 hz0 hzi1 hzi2 rfl (by decide) (.slice A3 m c3) m _ rfl HO4.out w4.heap.size (some ⟨w3.heap.size, 0, none⟩) 1 1 [.string q1, .string q2] rfl HRD4.out (by simp [Value.oneCell']) (by unfold maxLen; omega) (by omega) HB4.out.size ?_
        intro v5 w5 hown5 hg5 hat5
        obtain ⟨A5, c5, rfl⟩ := slice_form hown5
        have HO5 : Hid (w5.ownsRow w1.heap.size 102 2 (.slice A5 (m + 1) c5) (m + 1) (idCells (f.I ++ (f.L.take (k + 1)).map fun x => x.2))) := (by unfold Hid; rw [HTK.out]; exact hown5)
        have HB5 : Hid (Below w1.heap.size w1 w5) := HB4.out.grown hg5 HB4.out.size (fun q hq => (HO4.out.lt q hq).1)
        clear hown5 hg5 hat5))
    go_roundw
    case measure => simp [intOf]; omega
    exact ⟨k + 1, m + 1, A5, c5, by omega, by omega, rfl, by go_num, HO5.out, (by unfold Hid; have := HM.out; omega), HB5.out⟩
  · have hkn : k = a.n := by omega
    have hids : f.I ++ (f.L.take k).map (fun x => x.2) = f.ids := by
     rw [hkn, ← HLA.out, List.take_length]
     rfl
    rw [hids] at HO
    have HM2 : Hid (f.ids.length = m) := by
     unfold Hid OpF.ids
     rw [zG, List.length_map, HLA.out, HM.out, hkn]
    clear hids hkn HM
    clear HLA HLI HIDS
    have HXL : Hid (∀ W, Below wr.heap.size wr W → ListsAt W w1.heap.size w.heap.size 11 5 [(k0, f.K0), (k1, f.K1), (k2, f.K2), (k3, f.K3), (k4, f.K4)]) := fun W hW => listsAt HF1.out (HB.out.trans (hW.mono HB.out.size)) (HN1.out.below (HB.out.trans (hW.mono HB.out.size)) HN1.out.lt)
    have e0 := HF1.out.k0.len
    have e1 := HF1.out.k1.len
    have e2 := HF1.out.k2.len
    have e3 := HF1.out.k3.len
    have e4 := HF1.out.k4.len
    have hs5 : sumLen [(k0, f.K0), (k1, f.K1), (k2, f.K2), (k3, f.K3), (k4, f.K4)] * 16 ≤ 140737488355328 := by
     have := HSUM.out
     unfold OpF.texts at this
     simp only [zG] at this
     simp only [sumLen, List.map_cons, List.map_nil, List.sum_cons, List.sum_nil]
     omega
    have hXT : ([(k0, f.K0), (k1, f.K1), (k2, f.K2), (k3, f.K3), (k4, f.K4)] : List (Sl × List ByteArray)).flatMap Prod.snd = f.texts := by simp [OpF.texts]
    have HTN : Hid (f.texts.length ≤ 4611686018427387904) := by have := HSUM.out; unfold Hid; omega
    have HCC : Hid (∀ W, Below wr.heap.size wr W → Calls Tryz.prog 104 #[.slice (some ⟨w.heap.size, 11, none⟩) 5 5] W (Concated W f.texts)) := fun W hW => by
     rw [← hXT]
     exact concat_any w.heap.size 11 5 5 w1.heap.size [(k0, f.K0), (k1, f.K1), (k2, f.K2), (k3, f.K3), (k4, f.K4)] W (by decide) (Nat.le_trans HB.out.size hW.size) (Nat.lt_of_lt_of_le HN1.out.lt (Nat.le_trans HB.out.size hW.size)) (HXL.out W hW) hs5
    obtain ⟨mA, hmA⟩ : ∃ x, x = (f.lists.any fun l => decide ((l.length : Int) > 1024)) := ⟨_, rfl⟩
    have hmA2 : (([(k0, f.K0), (k1, f.K1), (k2, f.K2), (k3, f.K3), (k4, f.K4)] : List (Sl × List ByteArray)).any fun x => decide ((x.1.n : Int) > 1024)) = mA := by
     rw [hmA]
     simp only [OpF.lists, List.any_cons, List.any_nil, e0, e1, e2, e3, e4]
    have HCL : Hid (∀ W, Below wr.heap.size wr W → Calls Tryz.prog 105 #[.slice (some ⟨w.heap.size, 11, none⟩) 5 5, .func (.func 106) #[] #[]] W fun e w' => e = .returned (.bool mA) ∧ Below W.heap.size W w') := fun W hW => by
     rw [← hmA2]
     exact has_lists w.heap.size 11 5 5 w1.heap.size [(k0, f.K0), (k1, f.K1), (k2, f.K2), (k3, f.K3), (k4, f.K4)] (fun x => decide ((x.1.n : Int) > 1024)) 106 W (by decide) (Nat.le_trans HB.out.size hW.size) (Nat.lt_of_lt_of_le HN1.out.lt (Nat.le_trans HB.out.size hW.size)) (HXL.out W hW) (enter_fn Tryz.func106 (by kernel_rfl) (by kernel_rfl))
      (fun x hx W' _ => by
        obtain ⟨j, hj, rfl⟩ := List.mem_iff_getElem.1 hx
        exact own1_any _ _ _ W' ((HXL.out W hW).bd j hj))
    obtain ⟨tL, htL⟩ : ∃ x, x = f.texts.any longP := ⟨_, rfl⟩
    obtain ⟨iL, hiL⟩ : ∃ x, x = f.ids.any longI := ⟨_, rfl⟩
    obtain ⟨vP, hvP⟩ : ∃ x, x = validS f.p := ⟨_, rfl⟩
    obtain ⟨iO, hiO⟩ : ∃ x, x = f.ids.any oddI := ⟨_, rfl⟩
    obtain ⟨tO, htO⟩ : ∃ x, x = f.texts.any oddP := ⟨_, rfl⟩
    obtain ⟨pl, hpl⟩ : ∃ x, x = plainB f (keptF f) := ⟨_, rfl⟩
    obtain ⟨kn, hkn⟩ : ∃ x, x = kS tS f.t s := ⟨_, rfl⟩
    have hM : manyB f s.n = (Oq15P4 mA tL f s) := by
     unfold manyB
     rw [← hmA, ← htL]
    obtain ⟨mB, hmB⟩ : ∃ x, x = (Oq15P4 mA tL f s) := ⟨_, rfl⟩
    have hBig : bigB f s.n = (Oq15P8 f d a i mB iL) := by
     unfold bigB
     rw [hM, ← hmB, ← hiL, HF1.out.d.len, HF1.out.a.len, HF1.out.i.len]
    have hOdd : oddB f s.n = (((((!vP) || iO) || tO) || (!pl)) || (((s.n : Int) : Int) != (kn.n : Int))) := by
     unfold oddB
     rw [← hvP, ← hiO, ← htO, ← hpl, hkn]
     unfold kS
     split <;> rfl
    have HRES : Hid (r = if (Oq15P8 f d a i mB iL) then 3 else if (((((!vP) || iO) || tO) || (!pl)) || (((s.n : Int) : Int) != (kn.n : Int))) then 1 else 0) := by
     unfold Hid
     rw [HE.out, hBig, hOdd]
    have HMB := Hi hmB
    have HIL := Hi hiL
    have HTL := Hi htL
    have HVP := Hi hvP
    have HIO := Hi hiO
    have HTO := Hi htO
    have HPL := Hi hpl
    have HKN := Hi hkn
    clear e0 e1 e2 e3 e4 hs5 hXT hmA hmA2 hM hBig hOdd hmB hiL htL hvP hiO htO hpl hkn HE HXL HSUM
    go_wp2_with (first
     | (go_at_call 104
        refine (HCC.out _ zT).mono ?_
        rintro e w2 ⟨A6, c6, rfl, ho6, hb6⟩
        have HO6 := Hi ho6
        have HB6 := Hi hb6
        clear ho6 hb6)
     | (go_at_call 105
        refine (HCL.out _ HB6.out).mono ?_
        rintro e wA ⟨rfl, hb⟩
        have HOA := Hi (own_below HO6.out hb)
        have HBA : Hid (Below wr.heap.size wr wA) := HB6.out.trans (hb.mono HB6.out.size)
        clear hb HO6 HB6
        refine Hid.out ?_))
    refine Hi ?_
    iterate 12 go_step
    --MARK38
    have HB1A : Hid (Below w1.heap.size w1 wA) := HB.out.trans (HBA.out.mono HB.out.size)
    have HNA : Hid (Blk wA w.heap.size 29 (f.row d a k0 k1 k2 k3 k4 i s).toArray) := HN1.out.below HB1A.out HN1.out.lt
    have HRA : Hid (Reads wA wA.heap.size 1 A6 f.texts.length (strCells f.texts)) := Reads.of_own HOA.out
    have HR3 : Hid (Reads wA wA.heap.size 2 A3 m (idCells f.ids)) := Reads.of_own (own_below HO.out HBA.out)
    have CB : Hid (∀ W, Below wA.heap.size wA W → Calls Tryz.prog 107 #[.slice A6 f.texts.length c6, .func (.func 108) #[] #[]] W fun e w' => e = .returned (.bool tL) ∧ Below W.heap.size W w') := fun W hW => by
     rw [HTL.out]
     exact has_str A6 _ c6 wA.heap.size f.texts longP 108 W HTN.out hW.size (HRA.out.below hW) (enter_fn Tryz.func108 (by kernel_rfl) (by kernel_rfl)) (fun x _ W' _ => own2_any x W')
    clear HO HOA HCC HCL HTL HB HN1
    obtain ⟨x38, H38⟩ := xv (.bool mA)
    obtain ⟨x39, H39⟩ := xv (bif (mA == false) then .slice A6 f.texts.length c6 else undef)
    obtain ⟨x40, H40⟩ := xv (bif (mA == false) then .bool tL else undef)
    obtain ⟨x41, H41⟩ := xv (.bool (mA || tL))
    obtain ⟨x42, H42⟩ := xv (.bool (mA || tL))
    obtain ⟨x43, H43⟩ := xv (bif ((mA || tL) == false) then .pointer (some ⟨w.heap.size, 0, none⟩) else undef)
    obtain ⟨x44, H44⟩ := xv (bif ((mA || tL) == false) then .int .i32 f.t else undef)
    obtain ⟨x45, H45⟩ := xv (bif ((mA || tL) == false) then .bool ((f.t : Int) == 22) else undef)
    obtain ⟨x46, H46⟩ := xv (bif ((mA || tL) == false) then .bool ((f.t : Int) == 22) else undef)
    obtain ⟨x47, H47⟩ := xv (bif (Oq15P2 mA tL f) then .pointer (some ⟨w.heap.size, 18, none⟩) else undef)
    obtain ⟨x48, H48⟩ := xv (bif (Oq15P2 mA tL f) then .slice s.A s.n s.c else undef)
    obtain ⟨x49, H49⟩ := xv (bif (Oq15P2 mA tL f) then .int .i64 (s.n : Int) else undef)
    obtain ⟨x50, H50⟩ := xv (bif (Oq15P2 mA tL f) then .bool (decide (((s.n : Int) : Int) > 1024)) else undef)
    obtain ⟨x51, H51⟩ := xv (bif ((mA || tL) == false) then .bool (Oq15P3 f s) else undef)
    obtain ⟨x52, H52⟩ := xv (.bool (Oq15P4 mA tL f s))
    refine wpList_seq (w0 := wA) (.inl x38 ::
     .inl x39 ::
     .inl x40 ::
     .inl x41 ::
     .inl x42 ::
     .inl x43 ::
     .inl x44 ::
     .inl x45 ::
     .inl x46 ::
     .inl x47 ::
     .inl x48 ::
     .inl x49 ::
     .inl x50 ::
     .inl x51 ::
     .inl x52 ::
     .inl (.bool (Oq15P4 mA tL f s)) :: []) rfl (by kernel_rfl) (by kernel_rfl) (nomono rfl) ⟨fun ac W hb o q K hK => op_u (u := .bool mA) rfl (r_move _ rfl (yA (hO o 37))) (kH hK H38),
     fun ac W hb o q K hK => op_g (u := .slice A6 f.texts.length c6) (wQ (dQ q 0 38 H38)) (fun hc => r_move _ rfl (yA (hO o 6))) (kH hK H39),
     fun ac W hb o q K hK => op_call (u := .bool tL) (wQ (dQ q 0 38 H38)) 107 _ _ rfl (#[.slice A6 f.texts.length c6, .func (.func 108) #[] #[]]) (fun hc => by simp [(yB (dQ q 1 39 H39) hc), (show ac.eval (.func 108) = .func (.func 108) #[] #[] from rfl)]) Tryz.func107 (by kernel_rfl) (by kernel_rfl) (fun hc => CB.out W hb) (fun w' hbl => hK _ _ H40.out.symm hbl),
     fun ac W hb o q K hK => op_u (u := .bool (mA || tL)) rfl (r_or _ _ _ rfl (yA (dQ q 0 38 H38)) rfl (fun hb => yB (dQ q 2 40 H40) (by simp [hb]))) (kH hK H41),
     fun ac W hb o q K hK => op_u (u := .bool (mA || tL)) rfl (r_move _ rfl (yA (dQ q 3 41 H41))) (kH hK H42),
     fun ac W hb o q K hK => op_g (u := .pointer (some ⟨w.heap.size, 0, none⟩)) (wQ (dQ q 4 42 H42)) (fun hc => r_field 29 _ 0 rfl (yA (hO o 1)) zU29 rfl (n := 0) isz_21 rfl) (kH hK H43),
     fun ac W hb o q K hK => op_g (u := .int .i32 f.t) (wQ (dQ q 4 42 H42)) (fun hc => r_load 21 _ rfl (yB (dQ q 5 43 H43) hc) (yC (HNA.out.below hb HNA.out.lt) 0 rfl) zU21 rfl) (kH hK H44),
     fun ac W hb o q K hK => op_g (u := .bool ((f.t : Int) == 22)) (wQ (dQ q 4 42 H42)) (fun hc => r_ieq 21 _ _ _ rfl (yB (dQ q 6 44 H44) hc) rfl) (kH hK H45),
     fun ac W hb o q K hK => op_g (u := .bool ((f.t : Int) == 22)) (wQ (dQ q 4 42 H42)) (fun hc => r_move _ rfl (yB (dQ q 7 45 H45) hc)) (kH hK H46),
     fun ac W hb o q K hK => op_g (u := .pointer (some ⟨w.heap.size, 18, none⟩)) (want_if rfl rfl (dQ q 8 46 H46)) (fun hc => r_field 29 _ 14 rfl (yA (hO o 1)) zU29 rfl (n := 0) isz_27 rfl) (kH hK H47),
     fun ac W hb o q K hK => op_g (u := .slice s.A s.n s.c) (want_if rfl rfl (dQ q 8 46 H46)) (fun hc => r_load 27 _ rfl (yB (dQ q 9 47 H47) hc) (yC (HNA.out.below hb HNA.out.lt) 18 rfl) zU27 rfl) (kH hK H48),
     fun ac W hb o q K hK => op_g (u := .int .i64 (s.n : Int)) (want_if rfl rfl (dQ q 8 46 H46)) (fun hc => r_len #[] #[] _ 27 rfl (yB (dQ q 10 48 H48) hc) zU27) (kH hK H49),
     fun ac W hb o q K hK => op_g (u := .bool (decide (((s.n : Int) : Int) > 1024))) (want_if rfl rfl (dQ q 8 46 H46)) (fun hc => r_igt 3 _ _ _ rfl (yB (dQ q 11 49 H49) hc) rfl) (kH hK H50),
     fun ac W hb o q K hK => op_g (u := .bool (Oq15P3 f s)) (wQ (dQ q 4 42 H42)) (fun hc => r_and _ _ _ rfl (yB (dQ q 8 46 H46) hc) (fun hb => yB (dQ q 12 50 H50) (by simp [hb, hc])) rfl) (kH hK H51),
     fun ac W hb o q K hK => op_u (u := .bool (Oq15P4 mA tL f s)) rfl (r_or _ _ _ rfl (yA (dQ q 4 42 H42)) rfl (fun hb => yB (dQ q 13 51 H51) (by simp [hb]))) (kH hK H52),
     fun ac W hb o q K hK => op_u (u := .bool (Oq15P4 mA tL f s)) rfl (r_assign _ rfl (yA (dQ q 14 52 H52))) (kR hK), trivial⟩ ?_
    intro w3 hb3
    simp only [Fin, Act.put, zD, zA, zB]
    clear H38 H39 H40 H41 H42 H43 H44 H45 H46 H47 H48 H49 H50 H51 H52
    rw [← HMB.out]
    have HB3 := Hi hb3
    have HN3 : Hid (Blk w3 w.heap.size 29 (f.row d a k0 k1 k2 k3 k4 i s).toArray) := HNA.out.below hb3 HNA.out.lt
    have HR14 : Hid (∀ j v, (f.row d a k0 k1 k2 k3 k4 i s)[j]? = some v → w3.cell? ((⟨w.heap.size, 0, none⟩ : Addr).add j) = some v) := row_cells HN3.out
    have HKA : Hid (∀ W, Calls Tryz.prog 112 #[.agg (f.row d a k0 k1 k2 k3 k4 i s).toArray] W fun e w' => e = .returned (.agg (keptRow f d a k0 k1 k2 k3 k4 i s).toArray) ∧ Below W.heap.size W w') := HKP.out
    have HK1 : Hid ((keptRow f d a k0 k1 k2 k3 k4 i s).toArray.all (·.oneCell') = true) := row_one _ _ _ _ _ _ _ _ _ _
    clear hb3 CB
    go_wp2_with (first
     | (with_reducible refine wpAq 53 ?_
        refine wpList_load_at (by rfl) 29 (.tmp 1) rfl ⟨w.heap.size, 0, none⟩ rfl (f.row d a k0 k1 k2 k3 k4 i s) _ HR14.out zU29 rfl isz_29 ?_)
     | (go_at_call 112
        refine (HKA.out _).mono ?_
        rintro e wB ⟨rfl, hb⟩
        have HBB := Hi hb
        clear hb
        obtain ⟨wC, hwC⟩ := xa wB (keptRow f d a k0 k1 k2 k3 k4 i s).toArray 29
        have HKC := Hi (zW hwC)
        have HBC : Hid (Below wB.heap.size wB wC) := (by unfold Hid; rw [← hwC]; exact zT.alloc zR _))
     | (with_reducible refine wpAq 10 ?_
        refine wpList_newrow rfl rfl 29 rfl 10 rfl (.tmp 54) rfl rfl (keptRow f d a k0 k1 k2 k3 k4 i s).toArray (fun _ => rfl) (show 10 < 115 by decide) zer_op isz_29 HK1.out ?_
        rw [hwC]
        refine Hid.out ?_))
    refine Hi ?_
    simp only [Act.put, zD, zA, zB]
    iterate 6 go_step
    --MARK56
    have HBAC : Hid (Below wA.heap.size wA wC) := (HB3.out.trans (HBB.out.mono HB3.out.size)).trans (HBC.out.mono (Nat.le_trans HB3.out.size HBB.out.size))
    have HNC : Hid (Blk wC w.heap.size 29 (f.row d a k0 k1 k2 k3 k4 i s).toArray) := HNA.out.below HBAC.out HNA.out.lt
    have C3 : Hid (∀ W, Below wC.heap.size wC W → Calls Tryz.prog 113 #[.slice A3 m c3, .func (.func 109) #[] #[]] W fun e w' => e = .returned (.bool iL) ∧ Below W.heap.size W w') := fun W hW => by
     rw [HIL.out]
     exact has_id A3 _ c3 wA.heap.size f.ids longI 109 W (Nat.le_trans hm (by decide)) (Nat.le_trans HBAC.out.size hW.size) (HR3.out.below (HBAC.out.trans (hW.mono HBAC.out.size))) (enter_fn Tryz.func109 (by kernel_rfl) (by kernel_rfl)) (fun x _ W' _ => own3_any x W')
    clear hwC HBB HBC HKA HK1 HR14 HN3 HB3 HIL
    obtain ⟨x56, H56⟩ := xv (.pointer (some ⟨w.heap.size, 1, none⟩))
    obtain ⟨x57, H57⟩ := xv (.string f.p)
    obtain ⟨x58, H58⟩ := xv (.int .i64 (f.p.size : Int))
    obtain ⟨x59, H59⟩ := xv (.bool (decide (((f.p.size : Int) : Int) > 4096)))
    obtain ⟨x60, H60⟩ := xv (.bool (decide (((f.p.size : Int) : Int) > 4096)))
    obtain ⟨x61, H61⟩ := xv (bif ((decide (((f.p.size : Int) : Int) > 4096)) == false) then .pointer (some ⟨w.heap.size, 2, none⟩) else undef)
    obtain ⟨x62, H62⟩ := xv (bif ((decide (((f.p.size : Int) : Int) > 4096)) == false) then .slice d.A d.n d.c else undef)
    obtain ⟨x63, H63⟩ := xv (bif ((decide (((f.p.size : Int) : Int) > 4096)) == false) then .int .i64 (d.n : Int) else undef)
    obtain ⟨x64, H64⟩ := xv (bif ((decide (((f.p.size : Int) : Int) > 4096)) == false) then .bool (decide (((d.n : Int) : Int) > 1048575)) else undef)
    obtain ⟨x65, H65⟩ := xv (.bool (Oq15P5 f d))
    obtain ⟨x66, H66⟩ := xv (.bool (Oq15P5 f d))
    obtain ⟨x67, H67⟩ := xv (bif ((Oq15P5 f d) == false) then .pointer (some ⟨w.heap.size, 3, none⟩) else undef)
    obtain ⟨x68, H68⟩ := xv (bif ((Oq15P5 f d) == false) then .slice a.A a.n a.c else undef)
    obtain ⟨x69, H69⟩ := xv (bif ((Oq15P5 f d) == false) then .int .i64 (a.n : Int) else undef)
    obtain ⟨x70, H70⟩ := xv (bif ((Oq15P5 f d) == false) then .bool (decide (((a.n : Int) : Int) > 16)) else undef)
    obtain ⟨x71, H71⟩ := xv (.bool (Oq15P6 f d a))
    obtain ⟨x72, H72⟩ := xv (.bool (Oq15P6 f d a))
    obtain ⟨x73, H73⟩ := xv (bif ((Oq15P6 f d a) == false) then .pointer (some ⟨w.heap.size, 17, none⟩) else undef)
    obtain ⟨x74, H74⟩ := xv (bif ((Oq15P6 f d a) == false) then .slice i.A i.n i.c else undef)
    obtain ⟨x75, H75⟩ := xv (bif ((Oq15P6 f d a) == false) then .int .i64 (i.n : Int) else undef)
    obtain ⟨x76, H76⟩ := xv (bif ((Oq15P6 f d a) == false) then .bool (decide (((i.n : Int) : Int) > 16)) else undef)
    obtain ⟨x77, H77⟩ := xv (.bool (Oq15P7 f d a i))
    obtain ⟨x78, H78⟩ := xv (.bool (Oq15P7 f d a i))
    obtain ⟨x79, H79⟩ := xv (bif ((Oq15P7 f d a i) == false) then .bool mB else undef)
    obtain ⟨x80, H80⟩ := xv (.bool ((Oq15P7 f d a i) || mB))
    obtain ⟨x81, H81⟩ := xv (.bool ((Oq15P7 f d a i) || mB))
    obtain ⟨x82, H82⟩ := xv (bif (Oq15P9 f d a i mB) then .slice A3 m c3 else undef)
    obtain ⟨x83, H83⟩ := xv (bif (Oq15P9 f d a i mB) then .func (.func 109) #[] #[] else undef)
    obtain ⟨x84, H84⟩ := xv (bif (Oq15P9 f d a i mB) then .bool iL else undef)
    obtain ⟨x85, H85⟩ := xv (.bool (Oq15P8 f d a i mB iL))
    refine wpList_seq (w0 := wC) (.inl x56 ::
     .inl x57 ::
     .inl x58 ::
     .inl x59 ::
     .inl x60 ::
     .inl x61 ::
     .inl x62 ::
     .inl x63 ::
     .inl x64 ::
     .inl x65 ::
     .inl x66 ::
     .inl x67 ::
     .inl x68 ::
     .inl x69 ::
     .inl x70 ::
     .inl x71 ::
     .inl x72 ::
     .inl x73 ::
     .inl x74 ::
     .inl x75 ::
     .inl x76 ::
     .inl x77 ::
     .inl x78 ::
     .inl x79 ::
     .inl x80 ::
     .inl x81 ::
     .inl x82 ::
     .inl x83 ::
     .inl x84 ::
     .inl x85 ::
     .inl (.bool (Oq15P8 f d a i mB iL)) :: []) rfl (by kernel_rfl) (by kernel_rfl) (nomono rfl) ⟨fun ac W hb o q K hK => op_u (u := .pointer (some ⟨w.heap.size, 1, none⟩)) rfl (r_field 29 _ 1 rfl (yA (hO o 1)) zU29 rfl (n := 0) isz_9 rfl) (kH hK H56),
     fun ac W hb o q K hK => op_u (u := .string f.p) rfl (r_load 9 _ rfl (yA (dQ q 0 56 H56)) (yC (HNC.out.below hb HNC.out.lt) 1 rfl) zU9 rfl) (kH hK H57),
     fun ac W hb o q K hK => op_u (u := .int .i64 (f.p.size : Int)) rfl (r_lens _ 9 rfl (yA (dQ q 1 57 H57)) zU9) (kH hK H58),
     fun ac W hb o q K hK => op_u (u := .bool (decide (((f.p.size : Int) : Int) > 4096))) rfl (r_igt 3 _ _ _ rfl (yA (dQ q 2 58 H58)) rfl) (kH hK H59),
     fun ac W hb o q K hK => op_u (u := .bool (decide (((f.p.size : Int) : Int) > 4096))) rfl (r_move _ rfl (yA (dQ q 3 59 H59))) (kH hK H60),
     fun ac W hb o q K hK => op_g (u := .pointer (some ⟨w.heap.size, 2, none⟩)) (wQ (dQ q 4 60 H60)) (fun hc => r_field 29 _ 2 rfl (yA (hO o 1)) zU29 rfl (n := 0) isz_22 rfl) (kH hK H61),
     fun ac W hb o q K hK => op_g (u := .slice d.A d.n d.c) (wQ (dQ q 4 60 H60)) (fun hc => r_load 22 _ rfl (yB (dQ q 5 61 H61) hc) (yC (HNC.out.below hb HNC.out.lt) 2 rfl) zU22 rfl) (kH hK H62),
     fun ac W hb o q K hK => op_g (u := .int .i64 (d.n : Int)) (wQ (dQ q 4 60 H60)) (fun hc => r_len #[] #[] _ 22 rfl (yB (dQ q 6 62 H62) hc) zU22) (kH hK H63),
     fun ac W hb o q K hK => op_g (u := .bool (decide (((d.n : Int) : Int) > 1048575))) (wQ (dQ q 4 60 H60)) (fun hc => r_igt 3 _ _ _ rfl (yB (dQ q 7 63 H63) hc) rfl) (kH hK H64),
     fun ac W hb o q K hK => op_u (u := .bool (Oq15P5 f d)) rfl (r_or _ _ _ rfl (yA (dQ q 4 60 H60)) rfl (fun hb => yB (dQ q 8 64 H64) (by simp [hb]))) (kH hK H65),
     fun ac W hb o q K hK => op_u (u := .bool (Oq15P5 f d)) rfl (r_move _ rfl (yA (dQ q 9 65 H65))) (kH hK H66),
     fun ac W hb o q K hK => op_g (u := .pointer (some ⟨w.heap.size, 3, none⟩)) (wQ (dQ q 10 66 H66)) (fun hc => r_field 29 _ 3 rfl (yA (hO o 1)) zU29 rfl (n := 0) isz_23 rfl) (kH hK H67),
     fun ac W hb o q K hK => op_g (u := .slice a.A a.n a.c) (wQ (dQ q 10 66 H66)) (fun hc => r_load 23 _ rfl (yB (dQ q 11 67 H67) hc) (yC (HNC.out.below hb HNC.out.lt) 3 rfl) zU23 rfl) (kH hK H68),
     fun ac W hb o q K hK => op_g (u := .int .i64 (a.n : Int)) (wQ (dQ q 10 66 H66)) (fun hc => r_len #[] #[] _ 23 rfl (yB (dQ q 12 68 H68) hc) zU23) (kH hK H69),
     fun ac W hb o q K hK => op_g (u := .bool (decide (((a.n : Int) : Int) > 16))) (wQ (dQ q 10 66 H66)) (fun hc => r_igt 3 _ _ _ rfl (yB (dQ q 13 69 H69) hc) rfl) (kH hK H70),
     fun ac W hb o q K hK => op_u (u := .bool (Oq15P6 f d a)) rfl (r_or _ _ _ rfl (yA (dQ q 10 66 H66)) rfl (fun hb => yB (dQ q 14 70 H70) (by simp [hb]))) (kH hK H71),
     fun ac W hb o q K hK => op_u (u := .bool (Oq15P6 f d a)) rfl (r_move _ rfl (yA (dQ q 15 71 H71))) (kH hK H72),
     fun ac W hb o q K hK => op_g (u := .pointer (some ⟨w.heap.size, 17, none⟩)) (wQ (dQ q 16 72 H72)) (fun hc => r_field 29 _ 13 rfl (yA (hO o 1)) zU29 rfl (n := 0) isz_26 rfl) (kH hK H73),
     fun ac W hb o q K hK => op_g (u := .slice i.A i.n i.c) (wQ (dQ q 16 72 H72)) (fun hc => r_load 26 _ rfl (yB (dQ q 17 73 H73) hc) (yC (HNC.out.below hb HNC.out.lt) 17 rfl) zU26 rfl) (kH hK H74),
     fun ac W hb o q K hK => op_g (u := .int .i64 (i.n : Int)) (wQ (dQ q 16 72 H72)) (fun hc => r_len #[] #[] _ 26 rfl (yB (dQ q 18 74 H74) hc) zU26) (kH hK H75),
     fun ac W hb o q K hK => op_g (u := .bool (decide (((i.n : Int) : Int) > 16))) (wQ (dQ q 16 72 H72)) (fun hc => r_igt 3 _ _ _ rfl (yB (dQ q 19 75 H75) hc) rfl) (kH hK H76),
     fun ac W hb o q K hK => op_u (u := .bool (Oq15P7 f d a i)) rfl (r_or _ _ _ rfl (yA (dQ q 16 72 H72)) rfl (fun hb => yB (dQ q 20 76 H76) (by simp [hb]))) (kH hK H77),
     fun ac W hb o q K hK => op_u (u := .bool (Oq15P7 f d a i)) rfl (r_move _ rfl (yA (dQ q 21 77 H77))) (kH hK H78),
     fun ac W hb o q K hK => op_g (u := .bool mB) (wQ (dQ q 22 78 H78)) (fun hc => r_move _ rfl (yA (hO o 7))) (kH hK H79),
     fun ac W hb o q K hK => op_u (u := .bool ((Oq15P7 f d a i) || mB)) rfl (r_or _ _ _ rfl (yA (dQ q 22 78 H78)) rfl (fun hb => yB (dQ q 23 79 H79) (by simp [hb]))) (kH hK H80),
     fun ac W hb o q K hK => op_u (u := .bool ((Oq15P7 f d a i) || mB)) rfl (r_move _ rfl (yA (dQ q 24 80 H80))) (kH hK H81),
     fun ac W hb o q K hK => op_g (u := .slice A3 m c3) (wQ (dQ q 25 81 H81)) (fun hc => r_move _ rfl (yA (hO o 3))) (kH hK H82),
     fun ac W hb o q K hK => op_g (u := .func (.func 109) #[] #[]) (wQ (dQ q 25 81 H81)) (fun hc => r_move _ rfl (yA (hO o 8))) (kH hK H83),
     fun ac W hb o q K hK => op_call (u := .bool iL) (wQ (dQ q 25 81 H81)) 113 _ _ rfl (#[.slice A3 m c3, .func (.func 109) #[] #[]]) (fun hc => by simp [(yB (dQ q 26 82 H82) hc), (yB (dQ q 27 83 H83) hc)]) Tryz.func113 (by kernel_rfl) (by kernel_rfl) (fun hc => C3.out W hb) (fun w' hbl => hK _ _ H84.out.symm hbl),
     fun ac W hb o q K hK => op_u (u := .bool (Oq15P8 f d a i mB iL)) rfl (r_or _ _ _ rfl (yA (dQ q 25 81 H81)) rfl (fun hb => yB (dQ q 28 84 H84) (by simp [hb]))) (kH hK H85),
     fun ac W hb o q K hK => op_u (u := .bool (Oq15P8 f d a i mB iL)) rfl (r_assign _ rfl (yA (dQ q 29 85 H85))) (kR hK), trivial⟩ ?_
    intro wD hbD
    simp only [Fin, Act.put, zD, zA, zB]
    clear H56 H57 H58 H59 H60 H61 H62 H63 H64 H65 H66 H67 H68 H69 H70 H71 H72 H73 H74 H75 H76 H77 H78 H79 H80 H81 H82 H83 H84 H85
    have HBD : Hid (Below wA.heap.size wA wD) := HBAC.out.trans (hbD.mono HBAC.out.size)
    have HB1D : Hid (Below w1.heap.size w1 wD) := HB1A.out.trans (HBD.out.mono HB1A.out.size)
    have HKD : Hid (Blk wD wB.heap.size 29 (keptRow f d a k0 k1 k2 k3 k4 i s).toArray) := HKC.out.below hbD HKC.out.lt
    have HND : Hid (Blk wD w.heap.size 29 (f.row d a k0 k1 k2 k3 k4 i s).toArray) := HNC.out.below hbD HNC.out.lt
    have HBW : Hid (Below w.heap.size w wD) := HB1.out.trans (HB1D.out.mono HB1.out.size)
    clear hbD C3 HKC HNC HNA HBAC HBA
    obtain ⟨q15, hq15⟩ : ∃ x, x = (Oq15P8 f d a i mB iL) := ⟨_, rfl⟩
    rw [← hq15] at HRES ⊢
    clear hq15
    cases q15
    rotate_left
    · have HR : Hid (r = 3) := HRES.out
      clear HRES
      go_wp2
      go_ret
      exact ⟨by rw [HR.out]; rfl, HBW.out⟩
    have HFD := Hi (HF1.out.later HB1D.out)
    have CV : Hid (∀ W, Below wD.heap.size wD W → Calls Tryz.prog 111 #[.string f.p] W fun e w' => e = .returned (.bool vP) ∧ Below W.heap.size W w') := fun W hW => by
     rw [HVP.out]
     exact vstr_any f.p W (by have := HOK.out.p; unfold reachBytes at this; omega) (HE1.out.below (HB1D.out.trans (hW.mono HB1D.out.size))).tab
    have C4 : Hid (∀ W, Below wD.heap.size wD W → Calls Tryz.prog 113 #[.slice A3 m c3, .func (.func 110) #[] #[]] W fun e w' => e = .returned (.bool iO) ∧ Below W.heap.size W w') := fun W hW => by
     have h2 : Below wA.heap.size wA W := HBD.out.trans (hW.mono HBD.out.size)
     have h3 : Below w1.heap.size w1 W := HB1D.out.trans (hW.mono HB1D.out.size)
     rw [HIO.out]
     exact has_id A3 _ c3 wA.heap.size f.ids oddI 110 W (Nat.le_trans hm (by decide)) h2.size (HR3.out.below h2) (enter_fn Tryz.func110 (by kernel_rfl) (by kernel_rfl)) (fun x hx W' hW' => own4_any x W' (ids_size HOK.out x hx) (HE1.out.below (h3.trans (hW'.mono h3.size))))
    have C5 : Hid (∀ W, Below wD.heap.size wD W → Calls Tryz.prog 107 #[.slice A6 f.texts.length c6, .func (.func 114) #[] #[]] W fun e w' => e = .returned (.bool tO) ∧ Below W.heap.size W w') := fun W hW => by
     have h2 : Below wA.heap.size wA W := HBD.out.trans (hW.mono HBD.out.size)
     have h3 : Below w1.heap.size w1 W := HB1D.out.trans (hW.mono HB1D.out.size)
     rw [HTO.out]
     exact has_str A6 _ c6 wA.heap.size f.texts oddP 114 W HTN.out h2.size (HRA.out.below h2) (enter_fn Tryz.func114 (by kernel_rfl) (by kernel_rfl)) (fun x hx W' hW' => own5_any x W' (texts_size HOK.out x hx) (HE1.out.below (h3.trans (hW'.mono h3.size))))
    have CP : Hid (∀ W, Below wD.heap.size wD W → Calls Tryz.prog 64 #[.agg (f.row d a k0 k1 k2 k3 k4 i s).toArray, .agg (keptRow f d a k0 k1 k2 k3 k4 i s).toArray] W fun e w' => e = .returned (.bool pl) ∧ Below W.heap.size W w') := fun W hW => by
     rw [HPL.out]
     exact plain_any f (keptF f) d a k0 k1 k2 k3 k4 i s _ _ _ _ _ _ _ _ _ W (HFD.out.later hW) (HFD.out.later hW).kept _ _ rfl rfl
    have CR1 : Hid (∀ W, Below wD.heap.size wD W → ∀ j v, (f.row d a k0 k1 k2 k3 k4 i s)[j]? = some v → W.cell? ((⟨w.heap.size, 0, none⟩ : Addr).add j) = some v) := fun W hW => row_cells (HND.out.below hW HND.out.lt)
    have CR2 : Hid (∀ W, Below wD.heap.size wD W → ∀ j v, (keptRow f d a k0 k1 k2 k3 k4 i s)[j]? = some v → W.cell? ((⟨wB.heap.size, 0, none⟩ : Addr).add j) = some v) := fun W hW => row_cells (HKD.out.below hW HKD.out.lt)
    have CR3 : Hid (∀ W, Below wD.heap.size wD W → W.cell? ⟨wB.heap.size, 18, none⟩ = some (.slice kn.A kn.n kn.c)) := fun W hW => by
     rw [HKN.out]
     exact yC (HKD.out.below hW HKD.out.lt) 18 rfl
    have HHR : Hid (r = if (((((!vP) || iO) || tO) || (!pl)) || (((s.n : Int) : Int) != (kn.n : Int))) then 1 else 0) := HRES.out
    clear HRES HVP HIO HTO HPL HKN HFD HRA HR3 HB1A HB1D HMB HTN
    iterate 5 go_step
    --MARK87
    obtain ⟨x87, H87⟩ := xv (.pointer (some ⟨w.heap.size, 1, none⟩))
    obtain ⟨x88, H88⟩ := xv (.string f.p)
    obtain ⟨x89, H89⟩ := xv (.bool vP)
    obtain ⟨x90, H90⟩ := xv (.bool (!vP))
    obtain ⟨x91, H91⟩ := xv (.bool (!vP))
    obtain ⟨x92, H92⟩ := xv (bif ((!vP) == false) then .slice A3 m c3 else undef)
    obtain ⟨x93, H93⟩ := xv (bif ((!vP) == false) then .func (.func 110) #[] #[] else undef)
    obtain ⟨x94, H94⟩ := xv (bif ((!vP) == false) then .bool iO else undef)
    obtain ⟨x95, H95⟩ := xv (.bool ((!vP) || iO))
    obtain ⟨x96, H96⟩ := xv (.bool ((!vP) || iO))
    obtain ⟨x97, H97⟩ := xv (bif (((!vP) || iO) == false) then .slice A6 f.texts.length c6 else undef)
    obtain ⟨x98, H98⟩ := xv (bif (((!vP) || iO) == false) then .bool tO else undef)
    obtain ⟨x99, H99⟩ := xv (.bool (((!vP) || iO) || tO))
    obtain ⟨x100, H100⟩ := xv (.bool (((!vP) || iO) || tO))
    obtain ⟨x101, H101⟩ := xv (bif ((((!vP) || iO) || tO) == false) then .agg (f.row d a k0 k1 k2 k3 k4 i s).toArray else undef)
    obtain ⟨x102, H102⟩ := xv (bif ((((!vP) || iO) || tO) == false) then .agg (keptRow f d a k0 k1 k2 k3 k4 i s).toArray else undef)
    obtain ⟨x103, H103⟩ := xv (bif ((((!vP) || iO) || tO) == false) then .bool pl else undef)
    obtain ⟨x104, H104⟩ := xv (bif ((((!vP) || iO) || tO) == false) then .bool (!pl) else undef)
    obtain ⟨x105, H105⟩ := xv (.bool ((((!vP) || iO) || tO) || (!pl)))
    obtain ⟨x106, H106⟩ := xv (.bool ((((!vP) || iO) || tO) || (!pl)))
    obtain ⟨x107, H107⟩ := xv (bif (Oq15P1 vP iO tO pl) then .pointer (some ⟨w.heap.size, 18, none⟩) else undef)
    obtain ⟨x108, H108⟩ := xv (bif (Oq15P1 vP iO tO pl) then .slice s.A s.n s.c else undef)
    obtain ⟨x109, H109⟩ := xv (bif (Oq15P1 vP iO tO pl) then .int .i64 (s.n : Int) else undef)
    obtain ⟨x110, H110⟩ := xv (bif (Oq15P1 vP iO tO pl) then .pointer (some ⟨wB.heap.size, 18, none⟩) else undef)
    obtain ⟨x111, H111⟩ := xv (bif (Oq15P1 vP iO tO pl) then .slice kn.A kn.n kn.c else undef)
    obtain ⟨x112, H112⟩ := xv (bif (Oq15P1 vP iO tO pl) then .int .i64 (kn.n : Int) else undef)
    obtain ⟨x113, H113⟩ := xv (bif (Oq15P1 vP iO tO pl) then .bool (((s.n : Int) : Int) != (kn.n : Int)) else undef)
    obtain ⟨x114, H114⟩ := xv (.bool (((((!vP) || iO) || tO) || (!pl)) || (((s.n : Int) : Int) != (kn.n : Int))))
    refine wpList_seq (w0 := wD) (.inl x87 ::
     .inl x88 ::
     .inl x89 ::
     .inl x90 ::
     .inl x91 ::
     .inl x92 ::
     .inl x93 ::
     .inl x94 ::
     .inl x95 ::
     .inl x96 ::
     .inl x97 ::
     .inl x98 ::
     .inl x99 ::
     .inl x100 ::
     .inl x101 ::
     .inl x102 ::
     .inl x103 ::
     .inl x104 ::
     .inl x105 ::
     .inl x106 ::
     .inl x107 ::
     .inl x108 ::
     .inl x109 ::
     .inl x110 ::
     .inl x111 ::
     .inl x112 ::
     .inl x113 ::
     .inl x114 ::
     .inl (.bool (((((!vP) || iO) || tO) || (!pl)) || (((s.n : Int) : Int) != (kn.n : Int)))) :: []) rfl (by kernel_rfl) (by kernel_rfl) (nomono rfl) ⟨fun ac W hb o q K hK => op_u (u := .pointer (some ⟨w.heap.size, 1, none⟩)) rfl (r_field 29 _ 1 rfl (yA (hO o 1)) zU29 rfl (n := 0) isz_9 rfl) (kH hK H87),
     fun ac W hb o q K hK => op_u (u := .string f.p) rfl (r_load 9 _ rfl (yA (dQ q 0 87 H87)) (yC (HND.out.below hb HND.out.lt) 1 rfl) zU9 rfl) (kH hK H88),
     fun ac W hb o q K hK => op_call (u := .bool vP) (c := true) (want_free rfl) 111 _ _ rfl (#[.string f.p]) (fun hc => by simp [(yA (dQ q 1 88 H88))]) Tryz.func111 (by kernel_rfl) (by kernel_rfl) (fun hc => CV.out W hb) (fun w' hbl => hK _ _ H89.out.symm hbl),
     fun ac W hb o q K hK => op_u (u := .bool (!vP)) rfl (r_not _ _ rfl (yA (dQ q 2 89 H89))) (kH hK H90),
     fun ac W hb o q K hK => op_u (u := .bool (!vP)) rfl (r_move _ rfl (yA (dQ q 3 90 H90))) (kH hK H91),
     fun ac W hb o q K hK => op_g (u := .slice A3 m c3) (wQ (dQ q 4 91 H91)) (fun hc => r_move _ rfl (yA (hO o 3))) (kH hK H92),
     fun ac W hb o q K hK => op_g (u := .func (.func 110) #[] #[]) (wQ (dQ q 4 91 H91)) (fun hc => r_move _ rfl (yA (hO o 9))) (kH hK H93),
     fun ac W hb o q K hK => op_call (u := .bool iO) (wQ (dQ q 4 91 H91)) 113 _ _ rfl (#[.slice A3 m c3, .func (.func 110) #[] #[]]) (fun hc => by simp [(yB (dQ q 5 92 H92) hc), (yB (dQ q 6 93 H93) hc)]) Tryz.func113 (by kernel_rfl) (by kernel_rfl) (fun hc => C4.out W hb) (fun w' hbl => hK _ _ H94.out.symm hbl),
     fun ac W hb o q K hK => op_u (u := .bool ((!vP) || iO)) rfl (r_or _ _ _ rfl (yA (dQ q 4 91 H91)) rfl (fun hb => yB (dQ q 7 94 H94) (by simp [hb]))) (kH hK H95),
     fun ac W hb o q K hK => op_u (u := .bool ((!vP) || iO)) rfl (r_move _ rfl (yA (dQ q 8 95 H95))) (kH hK H96),
     fun ac W hb o q K hK => op_g (u := .slice A6 f.texts.length c6) (wQ (dQ q 9 96 H96)) (fun hc => r_move _ rfl (yA (hO o 6))) (kH hK H97),
     fun ac W hb o q K hK => op_call (u := .bool tO) (wQ (dQ q 9 96 H96)) 107 _ _ rfl (#[.slice A6 f.texts.length c6, .func (.func 114) #[] #[]]) (fun hc => by simp [(yB (dQ q 10 97 H97) hc), (show ac.eval (.func 114) = .func (.func 114) #[] #[] from rfl)]) Tryz.func107 (by kernel_rfl) (by kernel_rfl) (fun hc => C5.out W hb) (fun w' hbl => hK _ _ H98.out.symm hbl),
     fun ac W hb o q K hK => op_u (u := .bool (((!vP) || iO) || tO)) rfl (r_or _ _ _ rfl (yA (dQ q 9 96 H96)) rfl (fun hb => yB (dQ q 11 98 H98) (by simp [hb]))) (kH hK H99),
     fun ac W hb o q K hK => op_u (u := .bool (((!vP) || iO) || tO)) rfl (r_move _ rfl (yA (dQ q 12 99 H99))) (kH hK H100),
     fun ac W hb o q K hK => op_g (u := .agg (f.row d a k0 k1 k2 k3 k4 i s).toArray) (wQ (dQ q 13 100 H100)) (fun hc => r_load_row 29 _ rfl (yA (hO o 1)) (f.row d a k0 k1 k2 k3 k4 i s) (CR1.out W hb) zU29 rfl isz_29) (kH hK H101),
     fun ac W hb o q K hK => op_g (u := .agg (keptRow f d a k0 k1 k2 k3 k4 i s).toArray) (wQ (dQ q 13 100 H100)) (fun hc => r_load_row 29 _ rfl (yA (hO o 10)) (keptRow f d a k0 k1 k2 k3 k4 i s) (CR2.out W hb) zU29 rfl isz_29) (kH hK H102),
     fun ac W hb o q K hK => op_call (u := .bool pl) (wQ (dQ q 13 100 H100)) 64 _ _ rfl (#[.agg (f.row d a k0 k1 k2 k3 k4 i s).toArray, .agg (keptRow f d a k0 k1 k2 k3 k4 i s).toArray]) (fun hc => by simp [(yB (dQ q 14 101 H101) hc), (yB (dQ q 15 102 H102) hc)]) Tryz.func64 (by kernel_rfl) (by kernel_rfl) (fun hc => CP.out W hb) (fun w' hbl => hK _ _ H103.out.symm hbl),
     fun ac W hb o q K hK => op_g (u := .bool (!pl)) (wQ (dQ q 13 100 H100)) (fun hc => r_not _ _ rfl (yB (dQ q 16 103 H103) hc)) (kH hK H104),
     fun ac W hb o q K hK => op_u (u := .bool ((((!vP) || iO) || tO) || (!pl))) rfl (r_or _ _ _ rfl (yA (dQ q 13 100 H100)) rfl (fun hb => yB (dQ q 17 104 H104) (by simp [hb]))) (kH hK H105),
     fun ac W hb o q K hK => op_u (u := .bool ((((!vP) || iO) || tO) || (!pl))) rfl (r_move _ rfl (yA (dQ q 18 105 H105))) (kH hK H106),
     fun ac W hb o q K hK => op_g (u := .pointer (some ⟨w.heap.size, 18, none⟩)) (wQ (dQ q 19 106 H106)) (fun hc => r_field 29 _ 14 rfl (yA (hO o 1)) zU29 rfl (n := 0) isz_27 rfl) (kH hK H107),
     fun ac W hb o q K hK => op_g (u := .slice s.A s.n s.c) (wQ (dQ q 19 106 H106)) (fun hc => r_load 27 _ rfl (yB (dQ q 20 107 H107) hc) (yC (HND.out.below hb HND.out.lt) 18 rfl) zU27 rfl) (kH hK H108),
     fun ac W hb o q K hK => op_g (u := .int .i64 (s.n : Int)) (wQ (dQ q 19 106 H106)) (fun hc => r_len #[] #[] _ 27 rfl (yB (dQ q 21 108 H108) hc) zU27) (kH hK H109),
     fun ac W hb o q K hK => op_g (u := .pointer (some ⟨wB.heap.size, 18, none⟩)) (wQ (dQ q 19 106 H106)) (fun hc => r_field 29 _ 14 rfl (yA (hO o 10)) zU29 rfl (n := 0) isz_27 rfl) (kH hK H110),
     fun ac W hb o q K hK => op_g (u := .slice kn.A kn.n kn.c) (wQ (dQ q 19 106 H106)) (fun hc => r_load 27 _ rfl (yB (dQ q 23 110 H110) hc) (CR3.out W hb) zU27 rfl) (kH hK H111),
     fun ac W hb o q K hK => op_g (u := .int .i64 (kn.n : Int)) (wQ (dQ q 19 106 H106)) (fun hc => r_len #[] #[] _ 27 rfl (yB (dQ q 24 111 H111) hc) zU27) (kH hK H112),
     fun ac W hb o q K hK => op_g (u := .bool (((s.n : Int) : Int) != (kn.n : Int))) (wQ (dQ q 19 106 H106)) (fun hc => r_ine 3 _ _ _ rfl (yB (dQ q 22 109 H109) hc) (yB (dQ q 25 112 H112) hc)) (kH hK H113),
     fun ac W hb o q K hK => op_u (u := .bool (((((!vP) || iO) || tO) || (!pl)) || (((s.n : Int) : Int) != (kn.n : Int)))) rfl (r_or _ _ _ rfl (yA (dQ q 19 106 H106)) rfl (fun hb => yB (dQ q 26 113 H113) (by simp [hb]))) (kH hK H114),
     fun ac W hb o q K hK => op_u (u := .bool (((((!vP) || iO) || tO) || (!pl)) || (((s.n : Int) : Int) != (kn.n : Int)))) rfl (r_assign _ rfl (yA (dQ q 27 114 H114))) (kR hK), trivial⟩ ?_
    intro wE hbE
    simp only [Fin, Act.put, zD, zA, zB]
    clear H87 H88 H89 H90 H91 H92 H93 H94 H95 H96 H97 H98 H99 H100 H101 H102 H103 H104 H105 H106 H107 H108 H109 H110 H111 H112 H113 H114
    have HBE : Hid (Below w.heap.size w wE) := HBW.out.trans (hbE.mono HBW.out.size)
    clear hbE CV C4 C5 CP CR1 CR2 CR3 HND HKD
    obtain ⟨q17, hq17⟩ : ∃ x, x = (((((!vP) || iO) || tO) || (!pl)) || (((s.n : Int) : Int) != (kn.n : Int))) := ⟨_, rfl⟩
    rw [← hq17] at HHR ⊢
    clear hq17
    cases q17
    · have HR : Hid (r = 0) := HHR.out
      clear HHR
      go_wp2
      go_ret
      exact ⟨by rw [HR.out]; rfl, HBE.out⟩
    · have HR : Hid (r = 1) := HHR.out
      clear HHR
      go_wp2
      go_ret
      exact ⟨by rw [HR.out]; rfl, HBE.out⟩
theorem own_any {lo : Option Nat} (f : OpF) (d a k0 k1 k2 k3 k4 i s : Sl) {len : Nat} {xs : List Value} (w : World) (h : FAt w lo f d a k0 k1 k2 k3 k4 i) (hs : SlAt w lo 29 19 296 s len xs) (ok : f.Ok) (E : Env w) (hsum : f.texts.length * 16 ≤ 140737488355328) (hids : (f.I.length + f.L.length) * 32 ≤ 140737488355328) (cs : Array Value) (hcs : cs = (f.row d a k0 k1 k2 k3 k4 i s).toArray) :
 Calls Tryz.prog 71 #[.agg cs] w fun e w' => e = .returned (.int .i64 (ownE f s.n)) ∧ Below w.heap.size w w' :=
 own_of f d a k0 k1 k2 k3 k4 i s w h hs ok E hsum hids (fun ht W => kept_any f d a k0 k1 k2 k3 k4 i s W ht) cs hcs

theorem _root_.Go.Lib.Utf8Tabs.kp {w w' : World} {X : List Nat} {g h : Nat} (ht : Lib.Utf8Tabs g h w) (hk : Kp X w w') (hX : g ∉ X ∧ h ∉ X) (hB : g < w.heap.size ∧ h < w.heap.size) : Lib.Utf8Tabs g h w' := by
 refine ⟨fun c hc => ?_, fun i hi => ?_⟩
 · rw [hk.cell hB.1 hX.1]
   exact ht.1 c hc
 · rw [hk.cell hB.2 hX.2, hk.cell hB.2 hX.2]
   exact ht.2 i hi

structure Rdr (w : World) (B : Nat → Prop) (R : Nat) (A : Option Addr) (c : Nat) (l : List UInt8) (p : Nat) : Prop where
 blk : Blk w R 144 #[.slice A l.length c, .int .i64 p, .bool false]
 reads : Reads w w.heap.size 1 A l.length (bcells l)
 cap : l.length ≤ c
 here : p ≤ l.length
 old : ∀ x, B x → x < R
 len : l.length ≤ 140737488355328
 nil : A = none → c = 0
 tab : Lib.Utf8Tabs 0 1 w
 gl : B 0 ∧ B 1
 glt : 0 < w.heap.size ∧ 1 < w.heap.size
 mine : 0 < l.length → ∀ ad, A = some ad → B ad.block

section
variable {w w' : World} {B : Nat → Prop} {R c p q : Nat} {A : Option Addr} {l : List UInt8} {X : List Nat}
theorem Rdr.new (h : Rdr w B R A c l p) {y : Nat} (hy : R ≤ y) : ¬ B y := fun hb => by have := h.old _ hb; omega
theorem Rdr.lt (h : Rdr w B R A c l p) : R < w.heap.size := h.blk.lt
theorem reads_off {n size : Nat} {xs : List Value} (h : Reads w w.heap.size size A n xs) (hk : Kp X w w') (hX : 0 < n → ∀ ad, A = some ad → ad.block ∉ X) : Reads w' w'.heap.size size A n xs :=
 ⟨h.1, fun hn => by
   obtain ⟨ad, e, hb, hc⟩ := h.2 hn
   refine ⟨ad, e, Nat.lt_of_lt_of_le hb hk.size, fun j u hu => ?_⟩
   rw [hk.cell (by rw [block_of_add]; exact hb) (by rw [block_of_add]; exact hX hn ad e)]
   exact hc j u hu⟩
theorem Rdr.kp (h : Rdr w B R A c l p) (hk : Kp X w w') (hR : R ∉ X) (hX : ∀ x ∈ X, ¬ B x) : Rdr w' B R A c l p :=
 ⟨h.blk.kp hk hR, reads_off h.reads hk (fun hn ad e hx => hX _ hx (h.mine hn ad e)), h.cap, h.here, h.old, h.len, h.nil, h.tab.kp hk ⟨fun hx => hX _ hx h.gl.1, fun hx => hX _ hx h.gl.2⟩ h.glt, h.gl, ⟨Nat.lt_of_lt_of_le h.glt.1 hk.size, Nat.lt_of_lt_of_le h.glt.2 hk.size⟩, h.mine⟩
theorem Rdr.later (h : Rdr w B R A c l p) (hb : Below w.heap.size w w') : Rdr w' B R A c l p := h.kp (Kp.of_below (X := []) hb) (fun h => by cases h) (fun _ h => by cases h)
theorem Rdr.move (h : Rdr w B R A c l p) (hq : q ≤ l.length) : Rdr (w.setCell ⟨R, 1, none⟩ (.int .i64 q)) B R A c l q := by
 have hk : Kp [R] w (w.setCell ⟨R, 1, none⟩ (.int .i64 q)) := Kp.setCell ⟨R, 1, none⟩ _
 have hX : ∀ x ∈ [R], ¬ B x := fun x hx hb => by rw [List.mem_singleton.1 hx] at hb; exact Nat.lt_irrefl _ (h.old _ hb)
 exact ⟨h.blk.set_ 1 _, reads_off h.reads hk (fun hn ad e hx => hX _ hx (h.mine hn ad e)), h.cap, hq, h.old, h.len, h.nil, h.tab.kp hk ⟨fun hx => hX _ hx h.gl.1, fun hx => hX _ hx h.gl.2⟩ h.glt, h.gl, ⟨Nat.lt_of_lt_of_le h.glt.1 hk.size, Nat.lt_of_lt_of_le h.glt.2 hk.size⟩, h.mine⟩
theorem Rdr.cells (h : Rdr w B R A c l p) : w.cell? ⟨R, 0, none⟩ = some (.slice A l.length c) ∧ w.cell? ⟨R, 1, none⟩ = some (.int .i64 p) ∧ w.cell? ⟨R, 2, none⟩ = some (.bool false) ∧ w.frozen? ⟨R, 1, none⟩ = false := by
 refine ⟨?_, ?_, ?_, h.blk.frozen 1⟩
 · rw [h.blk.cell 0]; rfl
 · rw [h.blk.cell 1]; rfl
 · rw [h.blk.cell 2]; rfl
end

def fails (R : Nat) (er : Int) : List PanicEntry := [{ v := .iface 146 (.agg #[.pointer (some ⟨R, 0, none⟩), .int .i64 er]), recovered := false }]

theorem done_any (B : Nat → Prop) (R c p : Nat) (A : Option Addr) (l : List UInt8) (w : World) (h : Rdr w B R A c l p) :
 Calls Tryz.prog 85 #[.pointer (some ⟨R, 0, none⟩)] w fun e w' => e = .returned (.bool false) ∧ w = w' := by
 obtain ⟨c0, c1, c2, f1⟩ := h.cells
 clear h
 go_enter Tryz.func85, Tryz.ntmps85
 go_wp2
 go_ret
 exact ⟨rfl, rfl⟩

theorem fail_any (B : Nat → Prop) (R c p : Nat) (A : Option Addr) (l : List UInt8) (er : Int) (he : (er != 0) = true) (w : World) (h : Rdr w B R A c l p) :
 Calls Tryz.prog 119 #[.pointer (some ⟨R, 0, none⟩), .int .i64 er] w fun e w' => e = .panicked (fails R er) ∧ w = w' := by
 have H := Hi h
 clear h
 go_enter Tryz.func119, Tryz.ntmps119
 go_wp2_with (go_at_call 85; refine (done_any B R c p A l w H.out).mono ?_; rintro e w2 ⟨rfl, rfl⟩)
 exact ⟨rfl, rfl, rfl⟩

theorem left_any (B : Nat → Prop) (R c p : Nat) (A : Option Addr) (l : List UInt8) (w : World) (h : Rdr w B R A c l p) :
 Calls Tryz.prog 129 #[.pointer (some ⟨R, 0, none⟩)] w fun e w' => e = .returned (.int .i64 ((l.length - p : Nat) : Int)) ∧ ∃ n, w' = w.drewN n := by
 have H := Hi h
 obtain ⟨c0, c1, c2, f1⟩ := h.cells
 have hp := h.here
 have hl := h.len
 have e : ((l.length - p : Nat) : Int) = (l.length : Int) - p := by omega
 rw [e]
 clear h e
 go_enter Tryz.func129, Tryz.ntmps129
 go_wp2_with (go_at_call 85; refine (done_any B R c p A l w H.out).mono ?_; rintro e w2 ⟨rfl, rfl⟩)
 go_quiet (fail)
 go_wp2
 go_ret
 exact ⟨rfl, _, rfl⟩

theorem reads_zero (w : World) (B : Nat) (A : Option Addr) : Reads w B 1 A 0 [] := ⟨by simp, fun h => absurd h (by omega)⟩
theorem reads_part {w : World} {B n p k : Nat} {A : Option Addr} {l : List UInt8} (h : Reads w B 1 A n (bcells l)) (hp : p + k ≤ n) : Reads w B 1 (A.map fun x => x.add p) k (bcells ((l.drop p).take k)) := by
 have hl : l.length = n := by have := h.1; rw [bcells_length] at this; omega
 refine ⟨by rw [bcells_length, List.length_take, List.length_drop]; omega, fun hk => ?_⟩
 obtain ⟨ad, rfl, hb, hc⟩ := h.2 (by omega)
 refine ⟨ad.add p, rfl, by rw [block_of_add]; exact hb, fun j u hu => ?_⟩
 rw [add_of_add]
 refine hc _ u ?_
 rw [bcells_get] at hu ⊢
 rw [List.getElem?_take] at hu
 split at hu
 · rwa [List.getElem?_drop] at hu
 · cases hu

theorem next_ok (B : Nat → Prop) (R c p : Nat) (A : Option Addr) (l : List UInt8) (k : Int) (h0 : 0 ≤ k) (w : World) (h : Rdr w B R A c l p) (hk : p + k ≤ l.length) :
 Calls Tryz.prog 87 #[.pointer (some ⟨R, 0, none⟩), .int .i64 k] w fun e w' => (∃ A' c', e = .returned (.slice A' k.toNat c') ∧ Reads w' w'.heap.size 1 A' k.toNat (bcells ((l.drop p).take k.toNat)) ∧ (A' = none → k.toNat = 0 ∧ c' = 0) ∧ k.toNat ≤ c') ∧ Kp [R] w w' ∧ Rdr w' B R A c l (p + k.toNat) := by
 obtain ⟨k, rfl⟩ := Int.eq_ofNat_of_zero_le h0
 rw [Int.toNat_natCast]
 have H := Hi h
 obtain ⟨c0, c1, c2, f1⟩ := h.cells
 have hp := h.here
 have hl := h.len
 have hc := h.cap
 clear h h0
 go_enter Tryz.func87, Tryz.ntmps87
 go_wp2_with (go_at_call 129; refine (left_any B R c p A l w H.out).mono ?_; rintro e w2 ⟨rfl, n0, rfl⟩)
 go_quiet (fail)
 go_wp2
 · obtain rfl : c = p := by assumption
   have hk0 : k = 0 := by omega
   go_ret
   exact ⟨⟨A, 0, rfl, by rw [hk0]; simpa [bcells] using reads_zero _ _ _, fun _ => by simp [hk0], by simp [hk0]⟩, (Kp.drewN (n0 + nq)).to (Kp.setCell _ _) (fun _ h _ => h) (fun _ h _ => by simpa using h), (H.out.later (below_drewN' zT (n0 + nq))).move (q := c + k) (by omega)⟩
 · have hcp : ¬c = p := by assumption
   go_ret
   exact ⟨⟨_, _, rfl, reads_part ((H.out.later (below_drewN' zT (n0 + nq))).move (q := p + k) (by omega)).reads (by omega), (fun hA => by
    cases A with
    | none => have := H.out.nil rfl; omega
    | some ad => cases hA), by omega⟩, (Kp.drewN (n0 + nq)).to (Kp.setCell _ _) (fun _ h _ => h) (fun _ h _ => by simpa using h), (H.out.later (below_drewN' zT (n0 + nq))).move (by omega)⟩

theorem next_no (B : Nat → Prop) (R c p : Nat) (A : Option Addr) (l : List UInt8) (k : Int) (w : World) (h : Rdr w B R A c l p) (hk : (l.length : Int) < p + k) :
 Calls Tryz.prog 87 #[.pointer (some ⟨R, 0, none⟩), .int .i64 k] w fun e w' => e = .panicked (fails R 20) ∧ Kp [R] w w' ∧ Rdr w' B R A c l p := by
 have H := Hi h
 obtain ⟨c0, c1, c2, f1⟩ := h.cells
 have hp := h.here
 have hl := h.len
 have hc := h.cap
 have e : ((l.length - p : Nat) : Int) = (l.length : Int) - p := by omega
 have HE := Hi e
 clear h e
 go_enter Tryz.func87, Tryz.ntmps87
 go_wp2_with (first
  | (go_at_call 129; refine (left_any B R c p A l w H.out).mono ?_; rintro e w2 ⟨rfl, n0, rfl⟩; rw [HE.out])
  | (go_at_call 119; refine (fail_any B R c p A l 20 rfl _ (H.out.later (below_drewN' zT n0))).mono ?_; rintro e w2 ⟨rfl, rfl⟩))
 exact ⟨rfl, rfl, Kp.drewN n0, H.out.later (below_drewN' zT n0)⟩

theorem shl8_or (a b : Nat) (ha : a < 72057594037927936) (hb : b < 256) : bits BinOp.or IntKind.u64 (IntKind.u64.wrap ((a : Int) * 256)) (IntKind.u64.wrap (b : Int)) = ((a * 256 + b : Nat) : Int) := by
 rw [IntKind.wrap_u64, IntKind.wrap_u64]
 have e1 : (a : Int) * 256 % 18446744073709551616 = ((a * 256 : Nat) : Int) := by omega
 have e2 : (b : Int) % 18446744073709551616 = (b : Int) := by omega
 rw [e1, e2, u64_or_nat _ _ (by omega) (by omega)]
 have h := Nat.shiftLeft_add_eq_or_of_lt (i := 8) (b := b) (by omega) a
 rw [Nat.shiftLeft_eq] at h
 rw [← h]

theorem rnumber_any (A : Option Addr) (n c B : Nat) (l : List UInt8) (w : World) (hr : Reads w B 1 A n (bcells l)) (hn : n ≤ 8) :
 Calls Tryz.prog 86 #[.slice A n c] w fun e w' => e = .returned (.int .u64 (beNum l)) ∧ w = w' := by
 have hl : l.length = n := by have := hr.1; rw [bcells_length] at this; omega
 subst hl
 have HR := Hi hr
 clear hr
 go_enter Tryz.func86, Tryz.ntmps86
 go_wp2
 go_loop [3, 8] (fun m i => ∃ k : Nat, k ≤ l.length ∧ i = .int .i64 k ∧ m = .int .u64 (beNum (l.take k))) (fun _ i => l.length - (intOf i).toNat)
 case atStart => exact ⟨0, Nat.zero_le _, rfl, rfl⟩
 case round =>
  obtain ⟨k, hk, rfl, rfl⟩ := hrel
  by_cases hlt : k < l.length
  · obtain ⟨ad, u, rfl, _, hu, hcell⟩ := HR.out.at_ hlt
    have hget : u = .int .u8 (l[k].toNat : Int) := by
     simp only [bcells_get, List.getElem?_eq_getElem hlt, Option.map_some, Option.some.injEq] at hu
     exact hu.symm
    subst hget
    clear hu
    have HE : Hid (bits BinOp.or IntKind.u64 (IntKind.u64.wrap (↑(beNum (List.take k l)) * 256)) (IntKind.u64.wrap ↑l[k].toNat) = ((beNum (l.take (k + 1)) : Nat) : Int)) := by
     show _ = _
     rw [List.take_succ_eq_append_getElem hlt, beNum_snoc]
     refine shl8_or _ _ ?_ l[k].toNat_lt
     have h1 := beNum_lt (l.take k)
     have h2 : (l.take k).length ≤ 7 := by rw [List.length_take]; omega
     have h3 : 256 ^ (l.take k).length ≤ 256 ^ 7 := Nat.pow_le_pow_right (by decide) h2
     have h4 : (256 : Nat) ^ 7 = 72057594037927936 := by decide
     omega
    go_wp2
    go_round
    case rel => exact ⟨k + 1, by omega, by go_num, by rw [HE.out]⟩
    case measure => simp [intOf]; omega
  · have hkl : k = l.length := by omega
    have HK := Hi hkl
    clear hkl
    go_wp2
    go_ret
    exact ⟨congrArg (fun q : List UInt8 => Ending.returned (.int .u64 (beNum q : Int))) (by rw [HK.out, List.take_of_length_le zR]), rfl⟩

def Rg (α : Type) : Type := List UInt8 → Nat → (α × Nat) ⊕ (Int × Nat)
def Rg.ret {α : Type} (x : α) : Rg α := fun _ p => .inl (x, p)
def Rg.bind {α β : Type} (f : Rg α) (g : α → Rg β) : Rg β := fun l p =>
 match f l p with
 | .inl (x, q) => g x l q
 | .inr e => .inr e
def Rg.map {α β : Type} (f : α → β) (g : Rg α) : Rg β := fun l p =>
 match g l p with
 | .inl (x, q) => .inl (f x, q)
 | .inr e => .inr e

def gNext (k : Nat) : Rg (List UInt8) := fun l p => if p + k ≤ l.length then .inl ((l.drop p).take k, p + k) else .inr (20, p)
def gNum (k : Nat) : Rg Nat := (gNext k).map beNum
def gBool : Rg Bool := fun l p =>
 match gNum 1 l p with
 | .inl (n, q) => if 1 < n then .inr (22, p) else .inl (n == 1, q)
 | .inr e => .inr e
def gInt : Rg Int := (gNum 4).map fun n : Nat => wrap32 n
def gLong : Rg Int := (gNum 8).map fun n : Nat => wrap64 n
def gSize (most : Int) : Rg Nat := fun l p =>
 match gInt l p with
 | .inl (n, q) => if n < 0 ∨ most < n then .inr (22, p) else .inl (n.toNat, q)
 | .inr e => .inr e
def gBuf (most : Int) : Rg (List UInt8) := fun l p =>
 match gSize most l p with
 | .inl (n, q) => if q + n ≤ l.length then .inl ((l.drop q).take n, q + n) else .inr (20, p)
 | .inr e => .inr e
def gText (most : Int) : Rg (List UInt8) := fun l p =>
 match gBuf most l p with
 | .inl (b, q) => if Lib.validD b = true then .inl (b, q) else .inr (22, p)
 | .inr e => .inr e
def gCount (most least : Int) : Rg Nat := fun l p =>
 match gSize most l p with
 | .inl (n, q) => if 1 ≤ least ∧ ((l.length - q : Nat) : Int) / least < n then .inr (20, p) else .inl (n, q)
 | .inr e => .inr e
def gMany {α : Type} (g : Rg α) : Nat → Rg (List α)
 | 0 => Rg.ret []
 | n + 1 => g.bind fun x => (gMany g n).map fun r => x :: r
def gGet {α : Type} (most least : Int) (g : Rg α) : Rg (List α) := (gCount most least).bind fun n => gMany g n

def Rg.Ok {α : Type} (g : Rg α) : Prop := ∀ l p, p ≤ l.length → match g l p with
 | .inl (_, q) => p ≤ q ∧ q ≤ l.length
 | .inr (e, q) => p ≤ q ∧ q ≤ l.length ∧ e ≠ 0

section
variable {l : List UInt8} {p q k n : Nat} {x : List UInt8} {most least z e : Int}
theorem gNext_inl (h : gNext k l p = .inl (x, q)) : p + k ≤ l.length ∧ x = (l.drop p).take k ∧ q = p + k ∧ x.length = k := by
 unfold gNext at h
 split at h
 · simp only [Sum.inl.injEq, Prod.mk.injEq] at h
   obtain ⟨rfl, rfl⟩ := h
   exact ⟨by assumption, rfl, rfl, by simp; omega⟩
 · cases h
theorem gNum_inl (h : gNum k l p = .inl (n, q)) : p + k ≤ l.length ∧ n = beNum ((l.drop p).take k) ∧ q = p + k ∧ n < 256 ^ k := by
 unfold gNum Rg.map at h
 split at h
 · rename_i y r hy
   simp only [Sum.inl.injEq, Prod.mk.injEq] at h
   obtain ⟨rfl, rfl⟩ := h
   obtain ⟨h1, rfl, rfl, h4⟩ := gNext_inl hy
   have := beNum_lt ((l.drop p).take k)
   rw [h4] at this
   exact ⟨h1, rfl, rfl, this⟩
 · cases h
theorem gInt_inl (h : gInt l p = .inl (z, q)) : p + 4 ≤ l.length ∧ z = wrap32 (beNum ((l.drop p).take 4)) ∧ q = p + 4 := by
 unfold gInt Rg.map at h
 split at h
 · rename_i y r hy
   simp only [Sum.inl.injEq, Prod.mk.injEq] at h
   obtain ⟨rfl, rfl⟩ := h
   obtain ⟨h1, rfl, rfl, _⟩ := gNum_inl hy
   exact ⟨h1, rfl, rfl⟩
 · cases h
theorem wrap32_bd (z : Int) : -2147483648 ≤ wrap32 z ∧ wrap32 z ≤ 2147483647 := by unfold wrap32; omega
theorem gSize_inl (h : gSize most l p = .inl (n, q)) : p + 4 ≤ l.length ∧ q = p + 4 ∧ (n : Int) ≤ most ∧ n ≤ 2147483647 ∧ gInt l p = .inl ((n : Int), q) := by
 unfold gSize at h
 split at h
 · rename_i y r hy
   obtain ⟨h1, h2, rfl⟩ := gInt_inl hy
   split at h
   · cases h
   · simp only [Sum.inl.injEq, Prod.mk.injEq] at h
     obtain ⟨rfl, rfl⟩ := h
     have hb := wrap32_bd (beNum ((l.drop p).take 4))
     rw [← h2] at hb
     have e : ((y.toNat : Nat) : Int) = y := by omega
     rw [e]
     exact ⟨h1, rfl, by omega, by omega, hy⟩
 · cases h
end

def Rend {α : Type} (B : Nat → Prop) (R c : Nat) (A : Option Addr) (l : List UInt8) (val : α → Value → World → Prop) (r : (α × Nat) ⊕ (Int × Nat)) (w : World) (e : Ending) (w' : World) : Prop :=
 match r with
 | .inl (x, q) => (∃ v, e = .returned v ∧ val x v w') ∧ Kp [R] w w' ∧ Rdr w' B R A c l q
 | .inr (er, q) => e = .panicked (fails R er) ∧ Kp [R] w w' ∧ Rdr w' B R A c l q

theorem Rend.split {α : Type} {B : Nat → Prop} {R c : Nat} {A : Option Addr} {l : List UInt8} {val : α → Value → World → Prop} {r : (α × Nat) ⊕ (Int × Nat)} {w : World} {e : Ending} {w' : World} (h : Rend B R c A l val r w e w') :
 (∃ x q v, r = .inl (x, q) ∧ e = .returned v ∧ val x v w' ∧ Kp [R] w w' ∧ Rdr w' B R A c l q) ∨ (∃ er q, r = .inr (er, q) ∧ e = .panicked (fails R er) ∧ Kp [R] w w' ∧ Rdr w' B R A c l q) := by
 rcases r with ⟨x, q⟩ | ⟨er, q⟩
 · obtain ⟨⟨v, h1, h2⟩, h3, h4⟩ := h
   exact .inl ⟨x, q, v, rfl, h1, h2, h3, h4⟩
 · obtain ⟨h1, h3, h4⟩ := h
   exact .inr ⟨er, q, rfl, h1, h3, h4⟩
theorem Rend.yes {α : Type} {B : Nat → Prop} {R c : Nat} {A : Option Addr} {l : List UInt8} {val : α → Value → World → Prop} {r : (α × Nat) ⊕ (Int × Nat)} {w : World} {v : Value} {w' : World} {x : α} {q : Nat} (hr : r = .inl (x, q)) (hv : val x v w') (hk : Kp [R] w w') (hR : Rdr w' B R A c l q) : Rend B R c A l val r w (.returned v) w' := by
 subst hr
 exact ⟨⟨v, rfl, hv⟩, hk, hR⟩
theorem Rend.no {α : Type} {B : Nat → Prop} {R c : Nat} {A : Option Addr} {l : List UInt8} {val : α → Value → World → Prop} {r : (α × Nat) ⊕ (Int × Nat)} {w : World} {w' : World} {er : Int} {q : Nat} (hr : r = .inr (er, q)) (hk : Kp [R] w w') (hR : Rdr w' B R A c l q) : Rend B R c A l val r w (.panicked (fails R er)) w' := by
 subst hr
 exact ⟨rfl, hk, hR⟩

def vBool (b : Bool) (v : Value) (_ : World) : Prop := v = .bool b
def vInt32 (n : Int) (v : Value) (_ : World) : Prop := v = .int .i32 n
def vInt64 (n : Int) (v : Value) (_ : World) : Prop := v = .int .i64 n
def vNat (n : Nat) (v : Value) (_ : World) : Prop := v = .int .i64 n

theorem back_any (B : Nat → Prop) (R c p : Nat) (A : Option Addr) (l : List UInt8) (k er : Int) (h0 : 0 ≤ k) (hk : k ≤ p) (he : (er != 0) = true) (w : World) (h : Rdr w B R A c l p) :
 Calls Tryz.prog 141 #[.pointer (some ⟨R, 0, none⟩), .int .i64 k, .int .i64 er] w fun e w' => e = .panicked (fails R er) ∧ Kp [R] w w' ∧ Rdr w' B R A c l (p - k.toNat) := by
 have H := Hi h
 obtain ⟨c0, c1, c2, f1⟩ := h.cells
 have hp := h.here
 have hl := h.len
 have e : ((p - k.toNat : Nat) : Int) = (p : Int) - k := by omega
 have HM := h.move (q := p - k.toNat) (by omega)
 rw [e] at HM
 have HM := Hi HM
 clear h e
 go_enter Tryz.func141, Tryz.ntmps141
 go_wp2_with (go_at_call 119; refine (fail_any B R c (p - k.toNat) A l er he _ HM.out).mono ?_; rintro e w2 ⟨rfl, rfl⟩)
 exact ⟨rfl, rfl, Kp.setCell ⟨R, 1, none⟩ _, HM.out⟩

theorem take_one {l : List UInt8} {p : Nat} (h : p < l.length) : (l.drop p).take 1 = [l[p]] := by
 rw [List.drop_eq_getElem_cons h]; rfl

theorem slice_one {w : World} {B n : Nat} {A : Option Addr} {b : UInt8} (h : Reads w B 1 A n (bcells [b])) : ∃ ad, A = some ad ∧ w.cell? ad = some (.int .u8 b.toNat) := by
 have hn : n = 1 := by have := h.1; simp [bcells] at this; omega
 subst hn
 obtain ⟨ad, u, e, _, hu, hc⟩ := h.at_ (k := 0) (by omega)
 simp [bcells] at hu
 subst hu
 exact ⟨ad, e, by simpa [Addr.add] using hc⟩

theorem rBool_any (B : Nat → Prop) (R c p : Nat) (A : Option Addr) (l : List UInt8) (w : World) (h : Rdr w B R A c l p) :
 Calls Tryz.prog 128 #[.pointer (some ⟨R, 0, none⟩)] w fun e w' => Rend B R c A l vBool (gBool l p) w e w' := by
 have H := Hi h
 by_cases hk : p + 1 ≤ l.length
 · have hg : gNum 1 l p = .inl (l[p].toNat, p + 1) := by
    simp [gNum, Rg.map, gNext, hk, take_one (show p < l.length by omega), beNum]
   have HT := Hi (take_one (show p < l.length by omega))
   have hk1 : (p : Int) + 1 ≤ l.length := by omega
   have hb : l[p].toNat < 256 := l[p].toNat_lt
   by_cases h1 : 1 < l[p].toNat
   · have hg : gBool l p = .inr (22, p) := by unfold gBool; rw [hg]; exact if_pos h1
     have HG := Hi hg
     have h1' : (1 : Int) < (l[p].toNat : Int) := by omega
     clear h hg
     go_enter Tryz.func128, Tryz.ntmps128
     go_wp2_with (first
      | (go_at_call 85; refine (done_any B R c p A l w H.out).mono ?_; rintro e w2 ⟨rfl, rfl⟩)
      | (go_at_call 87; refine (next_ok B R c p A l 1 (by omega) w H.out hk1).mono ?_; rintro e w2 ⟨⟨A', c', rfl, hr, hn⟩, hkp, hR⟩; have hr' : Reads w2 w2.heap.size 1 A' 1 (bcells [l[p]]) := by rw [← HT.out]; exact hr
         obtain ⟨ad, rfl, hcell⟩ := slice_one hr'; have HKP := Hi hkp; have HR := Hi hR; clear hr hr' hn hkp hR)
      | (go_at_call 141; refine (back_any B R c _ A l 1 22 (by omega) (by simp; omega) rfl _ HR.out).mono ?_; rintro e w3 ⟨rfl, hk3, hR3⟩; have HK3 := Hi hk3; have HR3 := Hi hR3; clear hk3 hR3))
     exact ⟨rfl, Rend.no HG.out (HKP.out.trans HK3.out) HR3.out⟩
   · have hg : gBool l p = .inl (l[p].toNat == 1, p + 1) := by unfold gBool; rw [hg]; exact if_neg h1
     have HG := Hi hg
     have h1' : ¬ (1 : Int) < (l[p].toNat : Int) := by omega
     have hq : ((l[p].toNat : Int) == 1) = (l[p].toNat == 1) := by rw [Bool.eq_iff_iff]; simp; omega
     have HQ := Hi hq
     clear h hg hq
     go_enter Tryz.func128, Tryz.ntmps128
     go_wp2_with (first
      | (go_at_call 85; refine (done_any B R c p A l w H.out).mono ?_; rintro e w2 ⟨rfl, rfl⟩)
      | (go_at_call 87; refine (next_ok B R c p A l 1 (by omega) w H.out hk1).mono ?_; rintro e w2 ⟨⟨A', c', rfl, hr, hn⟩, hkp, hR⟩; have hr' : Reads w2 w2.heap.size 1 A' 1 (bcells [l[p]]) := by rw [← HT.out]; exact hr
         obtain ⟨ad, rfl, hcell⟩ := slice_one hr'; have HKP := Hi hkp; have HR := Hi hR; clear hr hr' hn hkp hR))
     go_ret
     exact Rend.yes HG.out (by show _ = _; rw [← HQ.out]; rfl) HKP.out HR.out
 · have hg : gBool l p = .inr (20, p) := by
    simp [gBool, gNum, Rg.map, gNext, hk]
   have HG := Hi hg
   have hk1 : (l.length : Int) < (p : Int) + 1 := by omega
   clear h hg
   go_enter Tryz.func128, Tryz.ntmps128
   go_wp2_with (first
    | (go_at_call 85; refine (done_any B R c p A l w H.out).mono ?_; rintro e w2 ⟨rfl, rfl⟩)
    | (go_at_call 87; refine (next_no B R c p A l 1 w H.out hk1).mono ?_; rintro e w2 ⟨rfl, hkp, hR⟩; have HKP := Hi hkp; have HR := Hi hR; clear hkp hR))
   exact ⟨rfl, Rend.no HG.out HKP.out HR.out⟩

theorem gNum_yes {k p : Nat} {l : List UInt8} (h : p + k ≤ l.length) : gNum k l p = .inl (beNum ((l.drop p).take k), p + k) := by
 simp [gNum, Rg.map, gNext, h]
theorem gNum_no {k p : Nat} {l : List UInt8} (h : ¬ p + k ≤ l.length) : gNum k l p = .inr (20, p) := by
 simp [gNum, Rg.map, gNext, h]
theorem beNum_bd {k p : Nat} {l : List UInt8} (h : p + k ≤ l.length) : beNum ((l.drop p).take k) < 256 ^ k := by
 have := beNum_lt ((l.drop p).take k)
 rwa [List.length_take, List.length_drop, Nat.min_eq_left (by omega)] at this

theorem rInt_any (B : Nat → Prop) (R c p : Nat) (A : Option Addr) (l : List UInt8) (w : World) (h : Rdr w B R A c l p) :
 Calls Tryz.prog 60 #[.pointer (some ⟨R, 0, none⟩)] w fun e w' => Rend B R c A l vInt32 (gInt l p) w e w' := by
 have H := Hi h
 by_cases hk : p + 4 ≤ l.length
 · have hg : gInt l p = .inl (wrap32 (beNum ((l.drop p).take 4)), p + 4) := by simp [gInt, Rg.map, gNum_yes hk]
   have HG := Hi hg
   have hk1 : (p : Int) + 4 ≤ l.length := by omega
   have hb := beNum_bd hk
   rw [show (256 : Nat) ^ 4 = 4294967296 by decide] at hb
   clear h hg
   go_enter Tryz.func60, Tryz.ntmps60
   go_wp2_with (first
    | (go_at_call 85; refine (done_any B R c p A l w H.out).mono ?_; rintro e w2 ⟨rfl, rfl⟩)
    | (go_at_call 87; refine (next_ok B R c p A l 4 (by omega) w H.out hk1).mono ?_; rintro e w2 ⟨⟨A', c', rfl, hr, hn⟩, hkp, hR⟩; have HRD := Hi hr; have HKP := Hi hkp; have HR := Hi hR; clear hr hn hkp hR)
    | (go_at_call 86; refine (rnumber_any A' _ c' w2.heap.size _ w2 HRD.out (by decide)).mono ?_; rintro e w3 ⟨rfl, rfl⟩))
   go_ret
   exact Rend.yes HG.out rfl HKP.out HR.out
 · have hg : gInt l p = .inr (20, p) := by simp [gInt, Rg.map, gNum_no hk]
   have HG := Hi hg
   have hk1 : (l.length : Int) < (p : Int) + 4 := by omega
   clear h hg
   go_enter Tryz.func60, Tryz.ntmps60
   go_wp2_with (first
    | (go_at_call 85; refine (done_any B R c p A l w H.out).mono ?_; rintro e w2 ⟨rfl, rfl⟩)
    | (go_at_call 87; refine (next_no B R c p A l 4 w H.out hk1).mono ?_; rintro e w2 ⟨rfl, hkp, hR⟩; have HKP := Hi hkp; have HR := Hi hR; clear hkp hR))
   exact ⟨rfl, Rend.no HG.out HKP.out HR.out⟩

theorem rLong_any (B : Nat → Prop) (R c p : Nat) (A : Option Addr) (l : List UInt8) (w : World) (h : Rdr w B R A c l p) :
 Calls Tryz.prog 122 #[.pointer (some ⟨R, 0, none⟩)] w fun e w' => Rend B R c A l vInt64 (gLong l p) w e w' := by
 have H := Hi h
 by_cases hk : p + 8 ≤ l.length
 · have hg : gLong l p = .inl (wrap64 (beNum ((l.drop p).take 8)), p + 8) := by simp [gLong, Rg.map, gNum_yes hk]
   have HG := Hi hg
   have hk1 : (p : Int) + 8 ≤ l.length := by omega
   clear h hg
   go_enter Tryz.func122, Tryz.ntmps122
   go_wp2_with (first
    | (go_at_call 85; refine (done_any B R c p A l w H.out).mono ?_; rintro e w2 ⟨rfl, rfl⟩)
    | (go_at_call 87; refine (next_ok B R c p A l 8 (by omega) w H.out hk1).mono ?_; rintro e w2 ⟨⟨A', c', rfl, hr, hn⟩, hkp, hR⟩; have HRD := Hi hr; have HKP := Hi hkp; have HR := Hi hR; clear hr hn hkp hR)
    | (go_at_call 86; refine (rnumber_any A' _ c' w2.heap.size _ w2 HRD.out (by decide)).mono ?_; rintro e w3 ⟨rfl, rfl⟩))
   go_ret
   exact Rend.yes HG.out rfl HKP.out HR.out
 · have hg : gLong l p = .inr (20, p) := by simp [gLong, Rg.map, gNum_no hk]
   have HG := Hi hg
   have hk1 : (l.length : Int) < (p : Int) + 8 := by omega
   clear h hg
   go_enter Tryz.func122, Tryz.ntmps122
   go_wp2_with (first
    | (go_at_call 85; refine (done_any B R c p A l w H.out).mono ?_; rintro e w2 ⟨rfl, rfl⟩)
    | (go_at_call 87; refine (next_no B R c p A l 8 w H.out hk1).mono ?_; rintro e w2 ⟨rfl, hkp, hR⟩; have HKP := Hi hkp; have HR := Hi hR; clear hkp hR))
   exact ⟨rfl, Rend.no HG.out HKP.out HR.out⟩

theorem rSize_any (B : Nat → Prop) (R c p : Nat) (A : Option Addr) (l : List UInt8) (most : Int) (w : World) (h : Rdr w B R A c l p) :
 Calls Tryz.prog 144 #[.pointer (some ⟨R, 0, none⟩), .int .i64 most] w fun e w' => Rend B R c A l vNat (gSize most l p) w e w' := by
 have HI := rInt_any B R c p A l w h
 have hp := h.here
 rcases hres : gInt l p with ⟨n, q⟩ | ⟨er, q⟩
 · rw [hres] at HI
   obtain ⟨hq1, hn, rfl⟩ := gInt_inl hres
   have hbd := wrap32_bd (beNum ((l.drop p).take 4))
   rw [← hn] at hbd
   obtain ⟨hbd1, hbd2⟩ := hbd
   have HI := Hi HI
   by_cases hc : n < 0 ∨ most < n
   · have hg : gSize most l p = .inr (22, p) := by unfold gSize; rw [hres]; exact if_pos hc
     have HG := Hi hg
     clear h hg hn hres
     by_cases hc0 : n < 0
     all_goals (
      try (have hc1 : most < n := by omega)
      clear hc
      go_enter Tryz.func144, Tryz.ntmps144
      go_wp2_with (first
       | (go_at_call 60; refine (HI.out).mono ?_; rintro e w2 ⟨⟨v, rfl, rfl⟩, hkp, hR⟩; have HKP := Hi hkp; have HR := Hi hR; clear hkp hR)
       | (go_at_call 141; refine (back_any B R c _ A l 4 22 (by omega) (by simp; omega) rfl _ HR.out).mono ?_; rintro e w3 ⟨rfl, hk3, hR3⟩; have HK3 := Hi hk3; have HR3 := Hi hR3; clear hk3 hR3))
      exact ⟨rfl, Rend.no HG.out (HKP.out.trans HK3.out) HR3.out⟩)
   · have hg : gSize most l p = .inl (n.toNat, p + 4) := by unfold gSize; rw [hres]; exact if_neg hc
     have HG := Hi hg
     have hc0 : ¬ n < 0 := by omega
     have hc1 : ¬ most < n := by omega
     clear h hg hn hres hc
     go_enter Tryz.func144, Tryz.ntmps144
     go_wp2_with (go_at_call 60; refine (HI.out).mono ?_; rintro e w2 ⟨⟨v, rfl, rfl⟩, hkp, hR⟩; have HKP := Hi hkp; have HR := Hi hR; clear hkp hR)
     go_ret
     exact Rend.yes HG.out (show Value.int .i64 n = .int .i64 (n.toNat : Int) by rw [Int.toNat_of_nonneg (by omega)]) HKP.out HR.out
 · rw [hres] at HI
   have HI := Hi HI
   have hg : gSize most l p = .inr (er, q) := by unfold gSize; rw [hres]
   have HG := Hi hg
   clear h hg hres
   go_enter Tryz.func144, Tryz.ntmps144
   go_wp2_with (go_at_call 60; refine (HI.out).mono ?_; rintro e w2 ⟨rfl, hkp, hR⟩; have HKP := Hi hkp; have HR := Hi hR; clear hkp hR)
   exact ⟨rfl, Rend.no HG.out HKP.out HR.out⟩


def vSlice (x : List UInt8) (v : Value) (w : World) : Prop := ∃ A' c', v = .slice A' x.length c' ∧ Reads w w.heap.size 1 A' x.length (bcells x) ∧ (A' = none → x.length = 0 ∧ c' = 0) ∧ x.length ≤ c'
def vOwn (base : Nat) (x : List UInt8) (v : Value) (w : World) : Prop := ∃ A' c', v = .slice A' x.length c' ∧ w.ownsRow base 5 1 v x.length (bcells x)

theorem rBytes_any (B : Nat → Prop) (R c p : Nat) (A : Option Addr) (l : List UInt8) (most : Int) (w : World) (h : Rdr w B R A c l p) :
 Calls Tryz.prog 139 #[.pointer (some ⟨R, 0, none⟩), .int .i64 most] w fun e w' => Rend B R c A l vSlice (gBuf most l p) w e w' := by
 have HI := rSize_any B R c p A l most w h
 rcases hres : gSize most l p with ⟨n, q⟩ | ⟨er, q⟩
 · rw [hres] at HI
   obtain ⟨hq1, rfl, _, hbd, _⟩ := gSize_inl hres
   have HI := Hi HI
   have hlen := h.len
   by_cases hc : p + 4 + n ≤ l.length
   · have hg : gBuf most l p = .inl ((l.drop (p + 4)).take n, p + 4 + n) := by unfold gBuf; rw [hres]; exact if_pos hc
     have HG := Hi hg
     have hc1 : ¬ (l.length : Int) - (p + 4) < n := by omega
     have hc2 : ((p + 4 : Nat) : Int) + (n : Int) ≤ l.length := by omega
     have HT : Hid (((l.drop (p + 4)).take n).length = n) := by show _ = _; rw [List.length_take, List.length_drop]; omega
     clear h hg hres
     go_enter Tryz.func139, Tryz.ntmps139
     go_wp2_with (first
      | (go_at_call 144; refine (HI.out).mono ?_; rintro e w2 ⟨⟨v, rfl, rfl⟩, hkp, hR⟩; have HL : Hid (((l.length - (p + 4) : Nat) : Int) = (l.length : Int) - (p + 4)) := (by show _ = _; have := hR.here; omega); have HKP := Hi hkp; have HR := Hi hR; clear hkp hR)
      | (go_at_call 129; refine (left_any B R c _ A l _ HR.out).mono ?_; rintro e w3 ⟨rfl, n0, rfl⟩; have HR0 := Hi (HR.out.later (below_drewN' zT n0)); rw [HL.out])
      | (go_at_call 87; refine (next_ok B R c _ A l _ (by omega) _ HR0.out hc2).mono ?_; rintro e w4 ⟨⟨A', c', rfl, hr, hn⟩, hk4, hR4⟩; have HRD := Hi hr; have HN := Hi hn; have HK4 := Hi hk4; have HR4 := Hi hR4; clear hr hn hk4 hR4))
     go_ret
     exact Rend.yes HG.out ⟨A', c', by rw [HT.out]; rfl, by rw [HT.out]; exact HRD.out, by rw [HT.out]; exact HN.out⟩ ((HKP.out.trans (Kp.drewN n0)).trans HK4.out) HR4.out
   · have hg : gBuf most l p = .inr (20, p) := by unfold gBuf; rw [hres]; exact if_neg hc
     have HG := Hi hg
     have hc1 : (l.length : Int) - (p + 4) < n := by omega
     clear h hg hres
     go_enter Tryz.func139, Tryz.ntmps139
     go_wp2_with (first
      | (go_at_call 144; refine (HI.out).mono ?_; rintro e w2 ⟨⟨v, rfl, rfl⟩, hkp, hR⟩; have HL : Hid (((l.length - (p + 4) : Nat) : Int) = (l.length : Int) - (p + 4)) := (by show _ = _; have := hR.here; omega); have HKP := Hi hkp; have HR := Hi hR; clear hkp hR)
      | (go_at_call 129; refine (left_any B R c _ A l _ HR.out).mono ?_; rintro e w3 ⟨rfl, n0, rfl⟩; have HR0 := Hi (HR.out.later (below_drewN' zT n0)); rw [HL.out])
      | (go_at_call 141; refine (back_any B R c _ A l 4 20 (by omega) (by simp; omega) rfl _ HR0.out).mono ?_; rintro e w4 ⟨rfl, hk3, hR3⟩; have HK3 := Hi hk3; have HR3 := Hi hR3; clear hk3 hR3))
     exact ⟨rfl, Rend.no HG.out ((HKP.out.trans (Kp.drewN n0)).trans HK3.out) HR3.out⟩
 · rw [hres] at HI
   have HI := Hi HI
   have hg : gBuf most l p = .inr (er, q) := by unfold gBuf; rw [hres]
   have HG := Hi hg
   clear h hg hres
   go_enter Tryz.func139, Tryz.ntmps139
   go_wp2_with (go_at_call 144; refine (HI.out).mono ?_; rintro e w2 ⟨rfl, hkp, hR⟩; have HKP := Hi hkp; have HR := Hi hR; clear hkp hR)
   exact ⟨rfl, Rend.no HG.out HKP.out HR.out⟩


theorem gBuf_len {most : Int} {l x : List UInt8} {p q : Nat} (h : gBuf most l p = .inl (x, q)) (hl : l.length ≤ 140737488355328) : x.length ≤ 140737488355328 := by
 unfold gBuf at h
 split at h
 · split at h
   · simp only [Sum.inl.injEq, Prod.mk.injEq] at h
     obtain ⟨rfl, _⟩ := h
     rw [List.length_take, List.length_drop]
     omega
   · cases h
 · cases h

theorem own_base {w : World} {base base' : Nat} {e : TypeId} {size n : Nat} {v : Value} {xs : List Value} (h : w.ownsRow base e size v n xs) (hb : base' ≤ base) : w.ownsRow base' e size v n xs := by
 refine ⟨h.1, ?_⟩
 rcases h.2 with h2 | ⟨g, cap, cur, h1, h3, h4⟩
 · exact .inl h2
 · exact .inr ⟨g, cap, cur, h1, Nat.le_trans hb h3, h4⟩

theorem rBuffer_any (B : Nat → Prop) (R c p : Nat) (A : Option Addr) (l : List UInt8) (most : Int) (w : World) (h : Rdr w B R A c l p) :
 Calls Tryz.prog 126 #[.pointer (some ⟨R, 0, none⟩), .int .i64 most] w fun e w' => Rend B R c A l (vOwn w.heap.size) (gBuf most l p) w e w' := by
 have HI := rBytes_any B R c p A l most w h
 have H := Hi h
 rcases hres : gBuf most l p with ⟨x, q⟩ | ⟨er, q⟩
 · rw [hres] at HI
   have HI := Hi HI
   have HX := Hi (gBuf_len hres h.len)
   clear h hres
   go_enter Tryz.func126, Tryz.ntmps126
   go_wp2_with (first
    | (go_at_call 85; refine (done_any B R c p A l w H.out).mono ?_; rintro e w1 ⟨rfl, rfl⟩)
    | (go_at_call 139; refine (HI.out).mono ?_; rintro e w2 ⟨⟨v, rfl, A', c', rfl, hr, hn⟩, hkp, hR⟩; have HRD := Hi hr; have HN := Hi hn; have HKP := Hi hkp; have HR := Hi hR; clear hkp hR)
    | (go_at_call 53; have hx : x.length ≤ 140737488355328 := (by
        have h1 := HRD.out.1
        rw [bcells_length] at h1
        have h2 := HX.out
        omega)
       refine (clone_any A' _ c' w2.heap.size (bcells x) w2 HRD.out (bcells_one _) zR hx HN.out.1).mono ?_; rintro e w3 ⟨A2, c2, rfl, ho, hb⟩; have HO := Hi ho; have HB3 := Hi hb; clear ho hb))
   go_ret
   exact Rend.yes rfl ⟨A2, c2, rfl, own_base HO.out HKP.out.size⟩ (HKP.out.to (Kp.of_below (X := []) HB3.out) (fun _ h _ => h) (fun _ h => by cases h)) (HR.out.later HB3.out)
 · rw [hres] at HI
   have HI := Hi HI
   clear h hres
   go_enter Tryz.func126, Tryz.ntmps126
   go_wp2_with (first
    | (go_at_call 85; refine (done_any B R c p A l w H.out).mono ?_; rintro e w1 ⟨rfl, rfl⟩)
    | (go_at_call 139; refine (HI.out).mono ?_; rintro e w2 ⟨rfl, hkp, hR⟩; have HKP := Hi hkp; have HR := Hi hR; clear hkp hR))
   exact ⟨rfl, Rend.no rfl HKP.out HR.out⟩

theorem rCount_any (B : Nat → Prop) (R c p : Nat) (A : Option Addr) (l : List UInt8) (most least : Int) (w : World) (h : Rdr w B R A c l p) :
 Calls Tryz.prog 138 #[.pointer (some ⟨R, 0, none⟩), .int .i64 most, .int .i64 least] w fun e w' => Rend B R c A l vNat (gCount most least l p) w e w' := by
 have HI := rSize_any B R c p A l most w h
 have H := Hi h
 rcases hres : gSize most l p with ⟨n, q⟩ | ⟨er, q⟩
 · rw [hres] at HI
   obtain ⟨hq1, rfl, _, hbd, _⟩ := gSize_inl hres
   have HI := Hi HI
   have hlen := h.len
   by_cases h1 : 1 ≤ least
   · by_cases hc : ((l.length - (p + 4) : Nat) : Int) / least < n
     · have hg : gCount most least l p = .inr (20, p) := by unfold gCount; rw [hres]; exact if_pos ⟨h1, hc⟩
       have HG := Hi hg
       have e1 : ((l.length - (p + 4) : Nat) : Int) = (l.length : Int) - (p + 4) := by omega
       rw [e1] at hc
       clear h hg hres e1
       go_enter Tryz.func138, Tryz.ntmps138
       go_wp2_with (first
        | (go_at_call 85; refine (done_any B R c p A l w H.out).mono ?_; rintro e w1 ⟨rfl, rfl⟩)
        | (go_at_call 144; refine (HI.out).mono ?_; rintro e w2 ⟨⟨v, rfl, rfl⟩, hkp, hR⟩; have HL : Hid (((l.length - (p + 4) : Nat) : Int) = (l.length : Int) - (p + 4)) := (by show _ = _; have := hR.here; omega); have HKP := Hi hkp; have HR := Hi hR; clear hkp hR)
        | (go_at_call 129; refine (left_any B R c _ A l _ HR.out).mono ?_; rintro e w3 ⟨rfl, n0, rfl⟩; have HR0 := Hi (HR.out.later (below_drewN' zT n0)); rw [HL.out])
        | (go_at_call 141; refine (back_any B R c _ A l 4 20 (by omega) (by simp; omega) rfl _ HR0.out).mono ?_; rintro e w4 ⟨rfl, hk3, hR3⟩; have HK3 := Hi hk3; have HR3 := Hi hR3; clear hk3 hR3))
       exact ⟨rfl, Rend.no HG.out ((HKP.out.trans (Kp.drewN n0)).trans HK3.out) HR3.out⟩
     · have hg : gCount most least l p = .inl (n, p + 4) := by unfold gCount; rw [hres]; exact if_neg (fun h => hc h.2)
       have HG := Hi hg
       have e1 : ((l.length - (p + 4) : Nat) : Int) = (l.length : Int) - (p + 4) := by omega
       rw [e1] at hc
       clear h hg hres e1
       go_enter Tryz.func138, Tryz.ntmps138
       go_wp2_with (first
        | (go_at_call 85; refine (done_any B R c p A l w H.out).mono ?_; rintro e w1 ⟨rfl, rfl⟩)
        | (go_at_call 144; refine (HI.out).mono ?_; rintro e w2 ⟨⟨v, rfl, rfl⟩, hkp, hR⟩; have HL : Hid (((l.length - (p + 4) : Nat) : Int) = (l.length : Int) - (p + 4)) := (by show _ = _; have := hR.here; omega); have HKP := Hi hkp; have HR := Hi hR; clear hkp hR)
        | (go_at_call 129; refine (left_any B R c _ A l _ HR.out).mono ?_; rintro e w3 ⟨rfl, n0, rfl⟩; have HR0 := Hi (HR.out.later (below_drewN' zT n0)); rw [HL.out]))
       go_ret
       exact Rend.yes HG.out rfl (HKP.out.trans (Kp.drewN n0)) HR0.out
   · have hg : gCount most least l p = .inl (n, p + 4) := by unfold gCount; rw [hres]; exact if_neg (fun h => h1 h.1)
     have HG := Hi hg
     clear h hg hres
     go_enter Tryz.func138, Tryz.ntmps138
     go_wp2_with (first
      | (go_at_call 85; refine (done_any B R c p A l w H.out).mono ?_; rintro e w1 ⟨rfl, rfl⟩)
      | (go_at_call 144; refine (HI.out).mono ?_; rintro e w2 ⟨⟨v, rfl, rfl⟩, hkp, hR⟩; have HL : Hid (((l.length - (p + 4) : Nat) : Int) = (l.length : Int) - (p + 4)) := (by show _ = _; have := hR.here; omega); have HKP := Hi hkp; have HR := Hi hR; clear hkp hR))
     go_ret
     exact Rend.yes HG.out rfl HKP.out HR.out
 · rw [hres] at HI
   have HI := Hi HI
   have hg : gCount most least l p = .inr (er, q) := by unfold gCount; rw [hres]
   have HG := Hi hg
   clear h hg hres
   go_enter Tryz.func138, Tryz.ntmps138
   go_wp2_with (first
    | (go_at_call 85; refine (done_any B R c p A l w H.out).mono ?_; rintro e w1 ⟨rfl, rfl⟩)
    | (go_at_call 144; refine (HI.out).mono ?_; rintro e w2 ⟨rfl, hkp, hR⟩; have HKP := Hi hkp; have HR := Hi hR; clear hkp hR))
   exact ⟨rfl, Rend.no HG.out HKP.out HR.out⟩
end Go.Proofs.YtpjjnmdfgcfnmaaGreatDoor
