/- ops.subs. (printed by gen_p29.py) -/
import Derived.Test.YtpjjnmdfgcfnmaaGreatDoorOqm
import Derived.Test.YtpjjnmdfgcfnmaaGreatDoorOb2
set_option linter.unusedVariables false
set_option linter.unusedSimpArgs false
namespace Go.Proofs.YtpjjnmdfgcfnmaaGreatDoor
open Go.RowKit

/-- the state of the loop -/
structure SSt (w0 : World) (B : Nat → Prop) (R c : Nat) (A : Option Addr) (l : List UInt8) (C q : Nat) (k : Cnt) (v : Value) (Q : List (OpC × List Value)) (w : World) : Prop where
  rdr : Rdr w B R A c l q
  blk : Blk w C 120 k.row
  kp : Kp [R, C] w0 w
  fl : FlatSt w0.heap.size v Q w
  nR : C ≠ R
  nB : ¬ B C
  old : R < w0.heap.size ∧ C < w0.heap.size
section
variable {w0 w w' : World} {B : Nat → Prop} {R c C q q' : Nat} {A : Option Addr} {l : List UInt8} {k k' : Cnt} {v : Value} {Q : List (OpC × List Value)}
theorem SSt.read (h : SSt w0 B R c A l C q k v Q w) (hk : Kp [R] w w') (hR : Rdr w' B R A c l q') : SSt w0 B R c A l C q' k v Q w' :=
  ⟨hR, h.blk.kp hk (by simpa using h.nR), h.kp.to hk (fun _ h _ => h) (fun y hy _ => by simp at hy; simp [hy]), h.fl.kp hk (by have := h.old; simp; omega), h.nR, h.nB, h.old⟩
theorem SSt.draw (h : SSt w0 B R c A l C q k v Q w) (n : Nat) : SSt w0 B R c A l C q k v Q (w.drewN n) :=
  have hk : Kp [] w (w.drewN n) := Kp.drewN n
  ⟨h.rdr.kp hk (by simp) (by simp), h.blk.kp hk (by simp), h.kp.to hk (fun _ h _ => h) (fun y hy _ => by cases hy), h.fl.kp hk (by simp), h.nR, h.nB, h.old⟩
theorem SSt.set_ (h : SSt w0 B R c A l C q k v Q w) (j : Nat) (u : Value) (hr : k.row.setIfInBounds j u = k'.row) : SSt w0 B R c A l C q k' v Q (w.setCell ⟨C, j, none⟩ u) :=
  have hk : Kp [C] w (w.setCell ⟨C, j, none⟩ u) := Kp.setCell ⟨C, j, none⟩ u
  ⟨h.rdr.kp hk (by simpa using h.nR.symm) (by simpa using h.nB), by rw [← hr]; exact h.blk.set_ j u, h.kp.to hk (fun _ h _ => h) (fun y hy _ => by simp at hy; simp [hy]), h.fl.kp hk (by have := h.old; simp; omega), h.nR, h.nB, h.old⟩
theorem SSt.got (h : SSt w0 B R c A l C q k v Q w) (hk : Kp [R, C] w w') (hR : Rdr w' B R A c l q') (hb : Blk w' C 120 k'.row) : SSt w0 B R c A l C q' k' v Q w' :=
  ⟨hR, hb, h.kp.trans hk, h.fl.kp hk (by have := h.old; simp; omega), h.nR, h.nB, h.old⟩
theorem SSt.keep (h : SSt w0 B R c A l C q k v Q w) (hk : Kp [] w w') : SSt w0 B R c A l C q k v Q w' :=
  ⟨h.rdr.kp hk (by simp) (by simp), h.blk.kp hk (by simp), h.kp.to hk (fun _ h _ => h) (fun y hy _ => by cases hy), h.fl.kp hk (by simp), h.nR, h.nB, h.old⟩
theorem SSt.push (h : SSt w0 B R c A l C q k v Q w) {b : Nat} {x : OpC} {cs : List Value} {v' : Value} (hx : Win w b w.heap.size x cs) (hb : w0.heap.size ≤ b) (hv : ∀ g, v.ownBlock = some g → g < b)
    (hown : w'.ownsRow w0.heap.size 29 19 v' (Q.length + 1) (Q.flatMap Prod.snd ++ cs)) (hg : w.grownBy w' v.ownBlock) (hat : v'.ownBlock = v.ownBlock ∨ v'.ownBlock = some w.heap.size) : SSt w0 B R c A l C q k v' (Q ++ [(x, cs)]) w' := by
  have hk := Kp.of_grown hg
  have ho : ∀ y ∈ v.ownBlock.toList, w0.heap.size ≤ y := fun y hy => (h.fl.own.lt y (by simpa using hy)).1
  have hold := h.old
  refine ⟨h.rdr.kp hk (fun hy => by have := ho _ hy; omega) (fun y hy hB => by have := ho _ hy; have := h.rdr.old y hB; omega), h.blk.kp hk (fun hy => by have := ho _ hy; omega), h.kp.to hk (fun _ h _ => h) (fun y hy hl => by have := ho _ hy; omega), ?_, h.nR, h.nB, hold⟩
  exact h.fl.snoc (r := (x, cs)) hx hb hv hown hg hat
end
theorem one_count (x : OpC) : 1 ≤ x.parts + x.multis := by
  obtain ⟨f, S⟩ := x
  rw [OpC.parts, OpC.multis]
  split <;> omega
theorem pre_inr {xs : List OpC} {r : ((List OpC × Cnt) × Nat) ⊕ (Int × Nat)} {e : Int × Nat} (h : r = .inr e) : pre xs r = .inr e := by rw [h]; rfl
/-- behind the type, the mark and the number of a header -/
def itemR (e : Bool) (t i : Int) (k : Cnt) (S : Int → Cnt → Rg (List OpC × Cnt)) : Rg (List OpC × Cnt) := if e = true then Rg.ret ([], k) else if (k.more t).big t = true then gFailR 3 else itemOf S i t k
def numR (e : Bool) (t i : Int) (k : Cnt) (S : Int → Cnt → Rg (List OpC × Cnt)) : Rg (List OpC × Cnt) := gInt.bind fun z => if (z != -1) = true then gFailR 22 else itemR e t i k S
def markR (t i : Int) (k : Cnt) (S : Int → Cnt → Rg (List OpC × Cnt)) : Rg (List OpC × Cnt) := gBool.bind fun e => if (e != (t == -1)) = true then gFailR 22 else numR e t i k S
def hdrR (t i : Int) (k : Cnt) (S : Int → Cnt → Rg (List OpC × Cnt)) : Rg (List OpC × Cnt) := if (t != -1 && !mayN t i) = true then gFailR 110 else markR t i k S
theorem gSubs_succ (n : Nat) (i : Int) (k : Cnt) : gSubs (n + 1) i k = gInt.bind fun t => hdrR t i k (gSubs n) := rfl
set_option maxRecDepth 100000 in
set_option maxHeartbeats 8000000 in
theorem subs_any (n : Nat) (HG0 : ∀ m, m < n → GetOk m) : SubsOk n := by
  intro B R c p C A l i k w h hC hCR hCB hk hp
  have HGET := Lib.hid HG0
  have HKO := Lib.hid hk
  have HS0 : Hid (SSt w B R c A l C p k (.slice none 0 0) [] w) := ⟨h, hC, Kp.refl _ _, FlatSt.nil w, hCR, hCB, h.lt, hC.lt⟩
  have hll := h.len
  have hpl := h.here
  obtain ⟨i0, hi0, hz0, hzi1, hzi2⟩ := info_parts op_info
  clear h hC hk HG0
  go_enter Tryz.func121, Tryz.ntmps121
  go_wp2
  go_loopw [7] (fun v7 wr => ∃ (m q : Nat) (k1 : Cnt) (A1 : Option Addr) (c1 : Nat) (Q : List (OpC × List Value)), v7 = .slice A1 Q.length c1 ∧ m ≤ n ∧ l.length - q < m ∧ Q.length ≤ k1.parts + k1.multis ∧ Hid (gSubs n i k l p = pre (Q.map Prod.fst) (gSubs m i k1 l q)) ∧ Hid (k1.Ok ∧ k1.depth = k.depth) ∧ Hid (SSt w B R c A l C q k1 (.slice A1 Q.length c1) Q wr)) (fun _ wr => l.length - (intOf ((wr.cell? ⟨R, 1, none⟩).getD undef)).toNat)
  case atStart => exact ⟨n, p, k, none, 0, [], rfl, Nat.le_refl _, hp, Nat.zero_le _, (by unfold Hid; rw [List.map_nil, pre_nil]), ⟨HKO.out, rfl⟩, HS0.out⟩
  case round =>
    clear HS0
    obtain ⟨m, q, k1, A1, c1, Q, rfl, hmn, hqm, hql, HG, HK1, HS⟩ := hrel
    obtain ⟨m', rfl⟩ : ∃ m', m = m' + 1 := ⟨m - 1, by omega⟩
    have hg : gSubs n i k l p = pre (Q.map Prod.fst) ((gInt.bind fun t => hdrR t i k1 (gSubs m')) l q) := HG.out
    have HG1 := Lib.hid hg
    have hk1 := HK1.out.1
    have hkp := hk1.parts
    have hkm := hk1.multis
    have hkd := hk1.depth
    have hq2 : Q.length ≤ 2048 := by omega
    have hnn : (0 : Int) ≤ ((l.length - q : Nat) : Int) := by omega
    clear hg HG hk1
    go_wp2_with (go_at_call 129; refine (left_any B R c q A l _ HS.out.rdr).mono ?_; rintro e w2 ⟨rfl, nn, rfl⟩; have H0 := Lib.hid (HS.out.draw nn); refine Hid.out ?_)
    have HKI : Hid (∀ (t : Int) (W : World), True) := fun _ _ => trivial
    have HMA := HKI
    have ht := rInt_any B R c q A l _ H0.out.rdr
    rcases h1 : gInt l q with ⟨t, q1⟩ | ⟨er, q1⟩
    rotate_left
    · rw [h1] at ht
      have HT := Lib.hid ht
      have HGE := Lib.hid (HG1.out.trans (pre_inr (gb_no h1)))
      clear ht h1
      refine Lib.hid ?_
      go_wp2_with (first
        | (go_at_call 11; refine (HKI.out _).mono ?_; rintro e w3 ⟨rfl, he⟩; obtain rfl := he.symm)
        | (go_at_call 72; refine (HMA.out _).mono ?_; rintro e w3 ⟨rfl, he⟩; obtain rfl := he.symm)
        | (go_at_call 60; refine HT.out.mono ?_; rintro e w3 ⟨rfl, hkp, hR⟩; have HN := Lib.hid (H0.out.read hkp hR); clear hkp hR))
      exact ⟨rfl, RendX.no HGE.out HN.out.kp HN.out.rdr⟩
    rw [h1] at ht
    have hleq1 : q ≤ q1 := (int_bk h1).2.1
    have HT := Lib.hid ht
    have HG2 : Hid (gSubs n i k l p = pre (Q.map Prod.fst) ((hdrR t i k1 (gSubs m')) l q1)) := HG1.out.trans (congrArg (pre (Q.map Prod.fst)) (gb_ev h1))
    have hq4 : q + 4 ≤ l.length ∧ q + 4 ≤ q1 := by have := gInt_inl h1; omega
    have HWF := Lib.hid (gInt_wf h1)
    clear ht h1 HG1 HKI HMA
    obtain ⟨kn, hkn⟩ : ∃ x, x = kindN t := ⟨_, rfl⟩
    have HKN := Lib.hid hkn
    have HKI : Hid (∀ W, Calls Tryz.prog 11 #[.int .i32 t] W fun e w' => e = .returned (.int .i64 kn) ∧ w' = W) := fun W => by rw [hkn]; exact kind_any t W
    clear hkn
    have HMA : Hid (∀ W, Calls Tryz.prog 72 #[.int .i32 t, .int .i32 i] W fun e w' => e = .returned (.bool (mayN t i)) ∧ w' = W) := fun W => may_any t i W
    refine Lib.hid ?_
    go_wp2_with (first
      | (go_at_call 11; refine (HKI.out _).mono ?_; rintro e w3 ⟨rfl, he⟩; obtain rfl := he.symm)
      | (go_at_call 72; refine (HMA.out _).mono ?_; rintro e w3 ⟨rfl, he⟩; obtain rfl := he.symm)
      | (go_at_call 60; refine HT.out.mono ?_; rintro e w3 ⟨⟨v, rfl, rfl⟩, hkp, hR⟩; have H1 := Lib.hid (H0.out.read hkp hR); clear hkp hR; refine Hid.out ?_))
    clear HT H0
    by_cases htm : t = -1
    · subst htm
      have HG3 : Hid (gSubs n i k l p = pre (Q.map Prod.fst) ((markR (-1) i k1 (gSubs m')) l q1)) := HG2.out.trans (by unfold hdrR; rw [if_neg (by simp)])
      clear HG2
      have ht := rBool_any B R c q1 A l _ H1.out.rdr
      rcases h1 : gBool l q1 with ⟨e, q2⟩ | ⟨er, q2⟩
      rotate_left
      · rw [h1] at ht
        have HT := Lib.hid ht
        have HGE := Lib.hid (HG3.out.trans (pre_inr (gb_no h1)))
        clear ht h1
        refine Lib.hid ?_
        go_wp2_with (first
          | (go_at_call 11; refine (HKI.out _).mono ?_; rintro e w3 ⟨rfl, he⟩; obtain rfl := he.symm)
          | (go_at_call 128; refine HT.out.mono ?_; rintro e w3 ⟨rfl, hkp, hR⟩; have HN := Lib.hid (H1.out.read hkp hR); clear hkp hR))
        exact ⟨rfl, RendX.no HGE.out HN.out.kp HN.out.rdr⟩
      rw [h1] at ht
      have hleq2 : q1 ≤ q2 := (bool_bk' h1).2.1
      have HT := Lib.hid ht
      have HG4 : Hid (gSubs n i k l p = pre (Q.map Prod.fst) ((if (e != ((-1 : Int) == -1)) = true then gFailR 22 else numR e (-1) i k1 (gSubs m')) l q2)) := HG3.out.trans (congrArg (pre (Q.map Prod.fst)) (gb_ev h1))
      clear ht h1 HG3
      refine Lib.hid ?_
      go_wp2_with (first
        | (go_at_call 11; refine (HKI.out _).mono ?_; rintro e w3 ⟨rfl, he⟩; obtain rfl := he.symm)
        | (go_at_call 128; refine HT.out.mono ?_; rintro e w4 ⟨⟨v, rfl, rfl⟩, hkp, hR⟩; have H2 := Lib.hid (H1.out.read hkp hR); clear hkp hR; refine Hid.out ?_))
      clear HT H1
      cases e
      · have HGE : Hid (gSubs n i k l p = .inr (22, q2)) := HG4.out.trans (pre_inr (by rw [if_pos (by decide)]; rfl))
        refine Lib.hid ?_
        go_wp2_with (first
          | (go_at_call 11; refine (HKI.out _).mono ?_; rintro e w3 ⟨rfl, he⟩; obtain rfl := he.symm)
          | (go_at_call 72; refine (HMA.out _).mono ?_; rintro e w3 ⟨rfl, he⟩; obtain rfl := he.symm)
          | (go_at_call 119; refine (fail_any B R c _ A l 22 rfl _ H2.out.rdr).mono ?_; rintro e w3 ⟨rfl, he⟩; obtain rfl := he))
        exact ⟨rfl, RendX.no HGE.out H2.out.kp H2.out.rdr⟩
      have HG5 : Hid (gSubs n i k l p = pre (Q.map Prod.fst) ((numR true (-1) i k1 (gSubs m')) l q2)) := HG4.out.trans (by rw [if_neg (by decide)])
      clear HG4
      have ht := rInt_any B R c q2 A l _ H2.out.rdr
      rcases h1 : gInt l q2 with ⟨z, q3⟩ | ⟨er, q3⟩
      rotate_left
      · rw [h1] at ht
        have HT := Lib.hid ht
        have HGE := Lib.hid (HG5.out.trans (pre_inr (gb_no h1)))
        clear ht h1
        refine Lib.hid ?_
        go_wp2_with (first
          | (go_at_call 60; refine HT.out.mono ?_; rintro e w3 ⟨rfl, hkp, hR⟩; have HN := Lib.hid (H2.out.read hkp hR); clear hkp hR))
        exact ⟨rfl, RendX.no HGE.out HN.out.kp HN.out.rdr⟩
      rw [h1] at ht
      have hleq3 : q2 ≤ q3 := (int_bk h1).2.1
      have HT := Lib.hid ht
      have HG6 : Hid (gSubs n i k l p = pre (Q.map Prod.fst) ((if (z != -1) = true then gFailR 22 else itemR true (-1) i k1 (gSubs m')) l q3)) := HG5.out.trans (congrArg (pre (Q.map Prod.fst)) (gb_ev h1))
      clear ht h1 HG5
      by_cases hz : z = -1
      rotate_left
      · have HGE : Hid (gSubs n i k l p = .inr (22, q3)) := HG6.out.trans (pre_inr (by rw [if_pos (by simpa using hz)]; rfl))
        have hzb : (z != -1) = true := by simpa using hz
        clear hz
        refine Lib.hid ?_
        go_wp2_with (first
          | (go_at_call 60; refine HT.out.mono ?_; rintro e w5 ⟨⟨v, rfl, rfl⟩, hkp, hR⟩; have H3 := Lib.hid (H2.out.read hkp hR); clear hkp hR; refine Hid.out ?_))
        clear HT H2
        refine Lib.hid ?_
        go_wp2_with (first
          | (go_at_call 119; refine (fail_any B R c _ A l 22 rfl _ H3.out.rdr).mono ?_; rintro e w3 ⟨rfl, he⟩; obtain rfl := he))
        exact ⟨rfl, RendX.no HGE.out H3.out.kp H3.out.rdr⟩
      subst hz
      have HGE : Hid (gSubs n i k l p = .inl ((Q.map Prod.fst, k1), q3)) := HG6.out.trans (by rw [if_neg (by decide)]; show (Sum.inl ((Q.map Prod.fst ++ [], k1), q3) : ((List OpC × Cnt) × Nat) ⊕ (Int × Nat)) = _; rw [List.append_nil])
      clear HG6
      refine Lib.hid ?_
      go_wp2_with (first
        | (go_at_call 60; refine HT.out.mono ?_; rintro e w5 ⟨⟨v, rfl, rfl⟩, hkp, hR⟩; have H3 := Lib.hid (H2.out.read hkp hR); clear hkp hR; refine Hid.out ?_))
      clear HT H2
      refine Lib.hid ?_
      go_wp2
      go_ret
      exact RendX.yes HGE.out ⟨H3.out.blk, HK1.out.1, HK1.out.2, A1, c1, Q, w.heap.size, rfl, rfl, hq2, Nat.le_refl _, H3.out.fl⟩ H3.out.kp H3.out.rdr
    have htb : (t != -1) = true := by simpa using htm
    have htc : (t == -1) = false := by simpa using htm
    by_cases hmy : mayN t i = true
    rotate_left
    · have hmf : mayN t i = false := by simpa using hmy
      have HGE : Hid (gSubs n i k l p = .inr (110, q1)) := HG2.out.trans (pre_inr (by unfold hdrR; rw [hmf, htb]; rfl))
      rw [hmf] at HMA
      clear hmy hmf htm
      refine Lib.hid ?_
      go_wp2_with (first
        | (go_at_call 11; refine (HKI.out _).mono ?_; rintro e w3 ⟨rfl, he⟩; obtain rfl := he.symm)
        | (go_at_call 72; refine (HMA.out _).mono ?_; rintro e w3 ⟨rfl, he⟩; obtain rfl := he.symm)
        | (go_at_call 119; refine (fail_any B R c _ A l 110 rfl _ H1.out.rdr).mono ?_; rintro e w3 ⟨rfl, he⟩; obtain rfl := he))
      exact ⟨rfl, RendX.no HGE.out H1.out.kp H1.out.rdr⟩
    have HG3 : Hid (gSubs n i k l p = pre (Q.map Prod.fst) ((markR t i k1 (gSubs m')) l q1)) := HG2.out.trans (by unfold hdrR; rw [if_neg (by rw [hmy, htb]; decide)])
    rw [hmy] at HMA
    clear HG2 hmy htm
    have ht := rBool_any B R c q1 A l _ H1.out.rdr
    rcases h1 : gBool l q1 with ⟨e, q2⟩ | ⟨er, q2⟩
    rotate_left
    · rw [h1] at ht
      have HT := Lib.hid ht
      have HGE := Lib.hid (HG3.out.trans (pre_inr (gb_no h1)))
      clear ht h1
      refine Lib.hid ?_
      go_wp2_with (first
        | (go_at_call 11; refine (HKI.out _).mono ?_; rintro e w3 ⟨rfl, he⟩; obtain rfl := he.symm)
        | (go_at_call 72; refine (HMA.out _).mono ?_; rintro e w3 ⟨rfl, he⟩; obtain rfl := he.symm)
        | (go_at_call 128; refine HT.out.mono ?_; rintro e w3 ⟨rfl, hkp, hR⟩; have HN := Lib.hid (H1.out.read hkp hR); clear hkp hR))
      exact ⟨rfl, RendX.no HGE.out HN.out.kp HN.out.rdr⟩
    rw [h1] at ht
    have hleq2 : q1 ≤ q2 := (bool_bk' h1).2.1
    have HT := Lib.hid ht
    have HG4 : Hid (gSubs n i k l p = pre (Q.map Prod.fst) ((if (e != (t == -1)) = true then gFailR 22 else numR e t i k1 (gSubs m')) l q2)) := HG3.out.trans (congrArg (pre (Q.map Prod.fst)) (gb_ev h1))
    clear ht h1 HG3
    refine Lib.hid ?_
    go_wp2_with (first
      | (go_at_call 11; refine (HKI.out _).mono ?_; rintro e w3 ⟨rfl, he⟩; obtain rfl := he.symm)
      | (go_at_call 72; refine (HMA.out _).mono ?_; rintro e w3 ⟨rfl, he⟩; obtain rfl := he.symm)
      | (go_at_call 128; refine HT.out.mono ?_; rintro e w4 ⟨⟨v, rfl, rfl⟩, hkp, hR⟩; have H2 := Lib.hid (H1.out.read hkp hR); clear hkp hR; refine Hid.out ?_))
    clear HT H1
    rw [htc] at HG4
    cases e
    rotate_left
    · have HGE : Hid (gSubs n i k l p = .inr (22, q2)) := HG4.out.trans (pre_inr (by rw [if_pos (by decide)]; rfl))
      refine Lib.hid ?_
      go_wp2_with (first
        | (go_at_call 11; refine (HKI.out _).mono ?_; rintro e w3 ⟨rfl, he⟩; obtain rfl := he.symm)
        | (go_at_call 72; refine (HMA.out _).mono ?_; rintro e w3 ⟨rfl, he⟩; obtain rfl := he.symm)
        | (go_at_call 119; refine (fail_any B R c _ A l 22 rfl _ H2.out.rdr).mono ?_; rintro e w3 ⟨rfl, he⟩; obtain rfl := he))
      exact ⟨rfl, RendX.no HGE.out H2.out.kp H2.out.rdr⟩
    have HG5 : Hid (gSubs n i k l p = pre (Q.map Prod.fst) ((numR false t i k1 (gSubs m')) l q2)) := HG4.out.trans (by rw [if_neg (by decide)])
    clear HG4
    have ht := rInt_any B R c q2 A l _ H2.out.rdr
    rcases h1 : gInt l q2 with ⟨z, q3⟩ | ⟨er, q3⟩
    rotate_left
    · rw [h1] at ht
      have HT := Lib.hid ht
      have HGE := Lib.hid (HG5.out.trans (pre_inr (gb_no h1)))
      clear ht h1
      refine Lib.hid ?_
      go_wp2_with (first
        | (go_at_call 60; refine HT.out.mono ?_; rintro e w3 ⟨rfl, hkp, hR⟩; have HN := Lib.hid (H2.out.read hkp hR); clear hkp hR))
      exact ⟨rfl, RendX.no HGE.out HN.out.kp HN.out.rdr⟩
    rw [h1] at ht
    have hleq3 : q2 ≤ q3 := (int_bk h1).2.1
    have HT := Lib.hid ht
    have HG6 : Hid (gSubs n i k l p = pre (Q.map Prod.fst) ((if (z != -1) = true then gFailR 22 else itemR false t i k1 (gSubs m')) l q3)) := HG5.out.trans (congrArg (pre (Q.map Prod.fst)) (gb_ev h1))
    clear ht h1 HG5
    by_cases hz : z = -1
    rotate_left
    · have HGE : Hid (gSubs n i k l p = .inr (22, q3)) := HG6.out.trans (pre_inr (by rw [if_pos (by simpa using hz)]; rfl))
      have hzb : (z != -1) = true := by simpa using hz
      clear hz
      refine Lib.hid ?_
      go_wp2_with (first
        | (go_at_call 60; refine HT.out.mono ?_; rintro e w5 ⟨⟨v, rfl, rfl⟩, hkp, hR⟩; have H3 := Lib.hid (H2.out.read hkp hR); clear hkp hR; refine Hid.out ?_))
      clear HT H2
      refine Lib.hid ?_
      go_wp2_with (first
        | (go_at_call 119; refine (fail_any B R c _ A l 22 rfl _ H3.out.rdr).mono ?_; rintro e w3 ⟨rfl, he⟩; obtain rfl := he))
      exact ⟨rfl, RendX.no HGE.out H3.out.kp H3.out.rdr⟩
    subst hz
    have HG7 : Hid (gSubs n i k l p = pre (Q.map Prod.fst) ((itemR false t i k1 (gSubs m')) l q3)) := HG6.out.trans (by rw [if_neg (by decide)])
    clear HG6
    refine Lib.hid ?_
    go_wp2_with (first
      | (go_at_call 60; refine HT.out.mono ?_; rintro e w5 ⟨⟨v, rfl, rfl⟩, hkp, hR⟩; have H3 := Lib.hid (H2.out.read hkp hR); clear hkp hR; refine Hid.out ?_))
    clear HT H2
    have hmm : k1.multis ≤ 1024 := hkm
    by_cases hk2 : kn = 2
    · subst hk2
      have ht14 : t = 14 := kind_14.1 HKN.out.symm
      subst ht14
      have hc1 := blk_cell H3.out.blk (u := .int .i64 (k1.multis : Int)) 1 rfl
      have hf1 := H3.out.blk.frozen 1
      obtain ⟨w6, hw6⟩ : ∃ w6, w5.setCell ⟨C, 1, none⟩ (.int .i64 ((k1.multis : Int) + 1)) = w6 := ⟨_, rfl⟩
      have H4 : Hid (SSt w B R c A l C q3 ⟨k1.parts, k1.multis + 1, k1.depth⟩ (.slice A1 Q.length c1) Q w6) := by
        unfold Hid
        rw [← hw6]
        exact H3.out.set_ 1 _ (by unfold Cnt.row; simp)
      have hd0 := blk_cell H4.out.blk (u := .int .i64 (k1.parts : Int)) 0 rfl
      have hd1 : w6.cell? ⟨C, 1, none⟩ = some (.int .i64 ((k1.multis : Int) + 1)) := by
        rw [blk_cell H4.out.blk (u := .int .i64 ((k1.multis + 1 : Nat) : Int)) 1 rfl, Int.natCast_add]
        rfl
      have hd2 := blk_cell H4.out.blk (u := .int .i64 (k1.depth : Int)) 2 rfl
      have HMO : Hid (k1.more 14 = ⟨k1.parts, k1.multis + 1, k1.depth⟩) := more_multis
      have hpp : ¬ (1024 : Int) < k1.parts := by omega
      by_cases hbm : (1024 : Int) < (k1.multis : Int) + 1
      · have HGE : Hid (gSubs n i k l p = .inr (3, q3)) := HG7.out.trans (pre_inr (by unfold itemR; rw [if_neg (by decide), HMO.out, if_pos (by unfold Cnt.big; dsimp only; rw [show decide (((k1.multis + 1 : Nat) : Int) > 1024) = true from decide_eq_true (by omega)]; rfl)]; rfl))
        refine Lib.hid ?_
        go_wp2_with (first
          | (go_at_call 119; refine (fail_any B R c _ A l 3 rfl _ H4.out.rdr).mono ?_; rintro e w3 ⟨rfl, he⟩; obtain rfl := he))
        exact ⟨rfl, RendX.no HGE.out H4.out.kp H4.out.rdr⟩
      by_cases hbd : (k1.depth : Int) = 8
      · have hbe : ((k1.depth : Int) == 8) = true := by simpa using hbd
        have HGE : Hid (gSubs n i k l p = .inr (3, q3)) := HG7.out.trans (pre_inr (by unfold itemR; rw [if_neg (by decide), HMO.out, if_pos (by unfold Cnt.big; dsimp only; rw [hbe, show (kindN 14 == 2) = true from by decide]; simp)]; rfl))
        clear hbd
        refine Lib.hid ?_
        go_wp2_with (first
          | (go_at_call 119; refine (fail_any B R c _ A l 3 rfl _ H4.out.rdr).mono ?_; rintro e w3 ⟨rfl, he⟩; obtain rfl := he))
        exact ⟨rfl, RendX.no HGE.out H4.out.kp H4.out.rdr⟩
      have hbe : ((k1.depth : Int) == 8) = false := by simpa using hbd
      have HBIG : Hid ((k1.more 14).big 14 = false) := by unfold Hid; rw [HMO.out]; unfold Cnt.big; dsimp only; rw [hbe]; simp; omega
      have HK2 : Hid ((⟨k1.parts, k1.multis + 1, k1.depth⟩ : Cnt).Ok) := ⟨hkp, by dsimp only; omega, hkd⟩
      have HD8 : Hid ((14 : Int) = 14 → (⟨k1.parts, k1.multis + 1, k1.depth⟩ : Cnt).depth < 8) := fun _ => by dsimp only; omega
      clear hbd
      have HGI : Hid (gSubs n i k l p = pre (Q.map Prod.fst) (itemOf (gSubs m') i 14 k1 l q3)) := HG7.out.trans (by unfold itemR; rw [if_neg (by decide), HBIG.out, if_neg (by decide)])
      have hget := HGET.out m' (by omega) B R c q3 C A l 14 ⟨k1.parts, k1.multis + 1, k1.depth⟩ w6 HWF.out H4.out.rdr H4.out.blk H4.out.nR H4.out.nB HK2.out HD8.out (by have := H4.out.rdr.here; omega)
      rcases h1 : opWith (gSubs m') 14 ⟨k1.parts, k1.multis + 1, k1.depth⟩ l q3 with ⟨⟨x, k3⟩, q4⟩ | ⟨er, q4⟩
      rotate_left
      · rw [h1] at hget
        have HT := Lib.hid hget
        have HGE : Hid (gSubs n i k l p = .inr (er, q4)) := HGI.out.trans (pre_itemno _ (by rw [HMO.out]; exact h1))
        clear hget h1
        refine Lib.hid ?_
        go_wp2_with (first
          | (go_at_call 84; refine HT.out.mono ?_; rintro e w7 ⟨rfl, hkp7, hR7⟩; have HKP := Lib.hid (H4.out.kp.trans hkp7); have HR := Lib.hid hR7; clear hkp7 hR7))
        exact ⟨rfl, RendX.no HGE.out HKP.out HR.out⟩
      rw [h1] at hget
      have HT := Lib.hid hget
      have HGN : Hid (gSubs n i k l p = pre ((Q ++ [(x, ([] : List Value))]).map Prod.fst) (gSubs m' i k3 l q4)) := HGI.out.trans (by rw [List.map_append]; exact pre_item _ (by rw [HMO.out]; exact h1))
      obtain ⟨f1, f2, f3, f4, f5, f6, _⟩ := op_forth (subs_forth m') h1 H4.out.rdr.here HK2.out HD8.out
      have hle4 : q3 ≤ q4 := f1.2.1
      have hq4l : q4 ≤ l.length := f1.2.2
      have HK3 : Hid (Q.length + 1 ≤ k3.parts + k3.multis ∧ k3.Ok ∧ k3.depth = k1.depth) := by
        have ha := after_more x k1
        rw [f2, HMO.out] at ha
        rw [ha] at f4
        have := one_count x
        refine ⟨?_, f5, ?_⟩
        · rw [f4]; dsimp only; omega
        · rw [f4]
      have HWV : Hid (∀ g, (Value.slice A1 Q.length c1).ownBlock = some g → g < w6.heap.size) := fun g hg => H4.out.fl.lt hg
      have hfl6 : w.heap.size ≤ w6.heap.size := H4.out.fl.bs
      clear hget h1 f1 f2 f3 f4 f5 f6 HG7 HGI
      refine Lib.hid ?_
      go_wp2_with (first
        | (go_at_call 84
           refine HT.out.mono ?_
           rintro e w7 ⟨⟨v, rfl, hblk, hok, hdep, cs, rfl, hat⟩, hkp7, hR7⟩
           have H7 := Lib.hid (H4.out.got hkp7 hR7 hblk)
           have HAT := Lib.hid hat
           have hz7 : w6.heap.size ≤ w7.heap.size := hkp7.size
           have HRS : Hid ((Value.agg cs.toArray).cells.size = 19) := (by unfold Hid; show cs.toArray.size = 19; rw [List.size_toArray, hat.len])
           clear hkp7 hR7 hblk hok hdep hat)
        | (refine wpList_build1 rfl 27 29 (.tmp 87) rfl (.agg cs.toArray) rfl 19 Tryz.underlying27 isz_29 zer_op (by decide) HRS.out ?_
           obtain ⟨w8, hw8⟩ : ∃ w8, w7.alloc (.cells cs.toArray 29) = w8 := ⟨_, rfl⟩
           have hc8 : (Value.agg cs.toArray).cells = cs.toArray := rfl
           rw [hc8, hw8]
           have hb8 : Below w7.heap.size w7 w8 := (by rw [← hw8]; exact (Below.refl _ _).alloc (Nat.le_refl _) _)
           have hn8 : Blk w8 w7.heap.size 29 cs.toArray := (by rw [← hw8]; exact Blk.new _ _ _)
           have H8 := Lib.hid (H7.out.keep (Kp.of_below hb8))
           have HW8 : Hid (Win w8 w6.heap.size w8.heap.size x cs) := Win.new (HAT.out.later hb8)
           have HR8 : Hid (Reads w8 w8.heap.size 19 (some ⟨w7.heap.size, 0, none⟩) 1 cs) := ⟨(by rw [HAT.out.len]), fun _ => ⟨⟨w7.heap.size, 0, none⟩, rfl, hn8.lt, fun j u hj => (by rw [Go.WideShapes.add_plain, Nat.zero_add, hn8.cell]; simpa using hj)⟩⟩
           have HO8 : Hid (∀ u ∈ cs, u.oneCell' = true) := fun v hv => (by
             have := HAT.out.one
             rw [Array.all_eq_true_iff_forall_mem] at this
             exact this v (by simpa using hv))
           have HOW : Hid (w8.ownsRow w.heap.size 29 19 (.slice A1 Q.length c1) Q.length (Q.flatMap Prod.snd)) := H8.out.fl.own
           clear hw8 hc8 hb8 hn8)
        | (at_builtin
           refine wpList_append_any _ rfl (.tmp 83) (.tmp 88) _ rfl w.heap.size 29 i0 _ 19 296 Tryz.underlying27 hi0 hz0 hzi1 hzi2 rfl (by decide) (.slice A1 Q.length c1) Q.length (Q.flatMap Prod.snd) rfl HOW.out w8.heap.size (some ⟨w7.heap.size, 0, none⟩) 1 1 cs rfl HR8.out HO8.out (by unfold maxLen; omega) (by omega) H8.out.fl.bs ?_
           intro v9 w9 hown9 hg9 hat9
           obtain ⟨A9, c9, rfl⟩ := slice_form hown9
           have H9 : Hid (SSt w B R c A l C q4 k3 (.slice A9 (Q.length + 1) c9) (Q ++ [(x, cs)]) w9) := H8.out.push HW8.out hfl6 HWV.out hown9 hg9 hat9
           clear hown9 hg9 hat9))
      go_roundw
      case rel => exact ⟨m', q4, k3, A9, c9, Q ++ [(x, cs)], by rw [List.length_append]; rfl, by omega, by omega, by rw [List.length_append]; exact HK3.out.1, by unfold Hid; rw [List.map_append] at *; exact HGN.out, ⟨HK3.out.2.1, HK3.out.2.2.trans HK1.out.2⟩, by unfold Hid; rw [List.length_append]; exact H9.out⟩
      case measure =>
        have e9 := H9.out.rdr.blk.cell 1
        have e0 := HS.out.rdr.blk.cell 1
        rw [e9, e0]
        simp [intOf]
        omega
    have ht14 : ¬ t = 14 := fun e => hk2 (HKN.out.trans (kind_14.2 e))
    have hkf : (kn == 2) = false := by simpa using hk2
    have hc0 := blk_cell H3.out.blk (u := .int .i64 (k1.parts : Int)) 0 rfl
    have hf0 := H3.out.blk.frozen 0
    obtain ⟨w6, hw6⟩ : ∃ w6, w5.setCell ⟨C, 0, none⟩ (.int .i64 ((k1.parts : Int) + 1)) = w6 := ⟨_, rfl⟩
    have H4 : Hid (SSt w B R c A l C q3 ⟨k1.parts + 1, k1.multis, k1.depth⟩ (.slice A1 Q.length c1) Q w6) := by
      unfold Hid
      rw [← hw6]
      exact H3.out.set_ 0 _ (by unfold Cnt.row; simp)
    have hd0 : w6.cell? ⟨C, 0, none⟩ = some (.int .i64 ((k1.parts : Int) + 1)) := by
      rw [blk_cell H4.out.blk (u := .int .i64 ((k1.parts + 1 : Nat) : Int)) 0 rfl, Int.natCast_add]
      rfl
    have hd1 := blk_cell H4.out.blk (u := .int .i64 (k1.multis : Int)) 1 rfl
    have HMO : Hid (k1.more t = ⟨k1.parts + 1, k1.multis, k1.depth⟩) := more_parts ht14
    have hmq : ¬ (1024 : Int) < k1.multis := by omega
    have HKF : Hid ((kindN t == 2) = false) := by unfold Hid; rw [← HKN.out]; exact hkf
    have HT14 := Lib.hid ht14
    clear ht14
    by_cases hbm : (1024 : Int) < (k1.parts : Int) + 1
    · have HGE : Hid (gSubs n i k l p = .inr (3, q3)) := HG7.out.trans (pre_inr (by unfold itemR; rw [if_neg (by decide), HMO.out, if_pos (by unfold Cnt.big; dsimp only; rw [show decide (((k1.parts + 1 : Nat) : Int) > 1024) = true from decide_eq_true (by omega)]; simp)]; rfl))
      refine Lib.hid ?_
      go_wp2_with (first
        | (go_at_call 119; refine (fail_any B R c _ A l 3 rfl _ H4.out.rdr).mono ?_; rintro e w3 ⟨rfl, he⟩; obtain rfl := he))
      exact ⟨rfl, RendX.no HGE.out H4.out.kp H4.out.rdr⟩
    have HBIG : Hid ((k1.more t).big t = false) := by unfold Hid; rw [HMO.out]; unfold Cnt.big; dsimp only; rw [HKF.out]; simp; omega
    have HK2 : Hid ((⟨k1.parts + 1, k1.multis, k1.depth⟩ : Cnt).Ok) := ⟨by dsimp only; omega, hkm, hkd⟩
    have HD8 : Hid (t = 14 → (⟨k1.parts + 1, k1.multis, k1.depth⟩ : Cnt).depth < 8) := fun e => absurd e HT14.out
    have HGI : Hid (gSubs n i k l p = pre (Q.map Prod.fst) (itemOf (gSubs m') i t k1 l q3)) := HG7.out.trans (by unfold itemR; rw [if_neg (by decide), HBIG.out, if_neg (by decide)])
    have hget := HGET.out m' (by omega) B R c q3 C A l t ⟨k1.parts + 1, k1.multis, k1.depth⟩ w6 HWF.out H4.out.rdr H4.out.blk H4.out.nR H4.out.nB HK2.out HD8.out (by have := H4.out.rdr.here; omega)
    rcases h1 : opWith (gSubs m') t ⟨k1.parts + 1, k1.multis, k1.depth⟩ l q3 with ⟨⟨x, k3⟩, q4⟩ | ⟨er, q4⟩
    rotate_left
    · rw [h1] at hget
      have HT := Lib.hid hget
      have HGE : Hid (gSubs n i k l p = .inr (er, q4)) := HGI.out.trans (pre_itemno _ (by rw [HMO.out]; exact h1))
      clear hget h1
      refine Lib.hid ?_
      go_wp2_with (first
        | (go_at_call 84; refine HT.out.mono ?_; rintro e w7 ⟨rfl, hkp7, hR7⟩; have HKP := Lib.hid (H4.out.kp.trans hkp7); have HR := Lib.hid hR7; clear hkp7 hR7))
      exact ⟨rfl, RendX.no HGE.out HKP.out HR.out⟩
    rw [h1] at hget
    have HT := Lib.hid hget
    have HGN : Hid (gSubs n i k l p = pre ((Q ++ [(x, ([] : List Value))]).map Prod.fst) (gSubs m' i k3 l q4)) := HGI.out.trans (by rw [List.map_append]; exact pre_item _ (by rw [HMO.out]; exact h1))
    obtain ⟨f1, f2, f3, f4, f5, f6, _⟩ := op_forth (subs_forth m') h1 H4.out.rdr.here HK2.out HD8.out
    have hle4 : q3 ≤ q4 := f1.2.1
    have hq4l : q4 ≤ l.length := f1.2.2
    have HK3 : Hid (Q.length + 1 ≤ k3.parts + k3.multis ∧ k3.Ok ∧ k3.depth = k1.depth) := by
      have ha := after_more x k1
      rw [f2, HMO.out] at ha
      rw [ha] at f4
      have := one_count x
      refine ⟨?_, f5, ?_⟩
      · rw [f4]; dsimp only; omega
      · rw [f4]
    have HWV : Hid (∀ g, (Value.slice A1 Q.length c1).ownBlock = some g → g < w6.heap.size) := fun g hg => H4.out.fl.lt hg
    have hfl6 : w.heap.size ≤ w6.heap.size := H4.out.fl.bs
    clear hget h1 f1 f2 f3 f4 f5 f6 HG7 HGI
    refine Lib.hid ?_
    go_wp2_with (first
      | (go_at_call 84
         refine HT.out.mono ?_
         rintro e w7 ⟨⟨v, rfl, hblk, hok, hdep, cs, rfl, hat⟩, hkp7, hR7⟩
         have H7 := Lib.hid (H4.out.got hkp7 hR7 hblk)
         have HAT := Lib.hid hat
         have hz7 : w6.heap.size ≤ w7.heap.size := hkp7.size
         have HRS : Hid ((Value.agg cs.toArray).cells.size = 19) := (by unfold Hid; show cs.toArray.size = 19; rw [List.size_toArray, hat.len])
         clear hkp7 hR7 hblk hok hdep hat)
      | (refine wpList_build1 rfl 27 29 (.tmp 87) rfl (.agg cs.toArray) rfl 19 Tryz.underlying27 isz_29 zer_op (by decide) HRS.out ?_
         obtain ⟨w8, hw8⟩ : ∃ w8, w7.alloc (.cells cs.toArray 29) = w8 := ⟨_, rfl⟩
         have hc8 : (Value.agg cs.toArray).cells = cs.toArray := rfl
         rw [hc8, hw8]
         have hb8 : Below w7.heap.size w7 w8 := (by rw [← hw8]; exact (Below.refl _ _).alloc (Nat.le_refl _) _)
         have hn8 : Blk w8 w7.heap.size 29 cs.toArray := (by rw [← hw8]; exact Blk.new _ _ _)
         have H8 := Lib.hid (H7.out.keep (Kp.of_below hb8))
         have HW8 : Hid (Win w8 w6.heap.size w8.heap.size x cs) := Win.new (HAT.out.later hb8)
         have HR8 : Hid (Reads w8 w8.heap.size 19 (some ⟨w7.heap.size, 0, none⟩) 1 cs) := ⟨(by rw [HAT.out.len]), fun _ => ⟨⟨w7.heap.size, 0, none⟩, rfl, hn8.lt, fun j u hj => (by rw [Go.WideShapes.add_plain, Nat.zero_add, hn8.cell]; simpa using hj)⟩⟩
         have HO8 : Hid (∀ u ∈ cs, u.oneCell' = true) := fun v hv => (by
           have := HAT.out.one
           rw [Array.all_eq_true_iff_forall_mem] at this
           exact this v (by simpa using hv))
         have HOW : Hid (w8.ownsRow w.heap.size 29 19 (.slice A1 Q.length c1) Q.length (Q.flatMap Prod.snd)) := H8.out.fl.own
         clear hw8 hc8 hb8 hn8)
      | (at_builtin
         refine wpList_append_any _ rfl (.tmp 83) (.tmp 88) _ rfl w.heap.size 29 i0 _ 19 296 Tryz.underlying27 hi0 hz0 hzi1 hzi2 rfl (by decide) (.slice A1 Q.length c1) Q.length (Q.flatMap Prod.snd) rfl HOW.out w8.heap.size (some ⟨w7.heap.size, 0, none⟩) 1 1 cs rfl HR8.out HO8.out (by unfold maxLen; omega) (by omega) H8.out.fl.bs ?_
         intro v9 w9 hown9 hg9 hat9
         obtain ⟨A9, c9, rfl⟩ := slice_form hown9
         have H9 : Hid (SSt w B R c A l C q4 k3 (.slice A9 (Q.length + 1) c9) (Q ++ [(x, cs)]) w9) := H8.out.push HW8.out hfl6 HWV.out hown9 hg9 hat9
         clear hown9 hg9 hat9))
    go_roundw
    case rel => exact ⟨m', q4, k3, A9, c9, Q ++ [(x, cs)], by rw [List.length_append]; rfl, by omega, by omega, by rw [List.length_append]; exact HK3.out.1, by unfold Hid; rw [List.map_append] at *; exact HGN.out, ⟨HK3.out.2.1, HK3.out.2.2.trans HK1.out.2⟩, by unfold Hid; rw [List.length_append]; exact H9.out⟩
    case measure =>
      have e9 := H9.out.rdr.blk.cell 1
      have e0 := HS.out.rdr.blk.cell 1
      rw [e9, e0]
      simp [intOf]
      omega
theorem subs_all : ∀ n, SubsOk n := fun n => by
  induction n using Nat.strongRecOn with
  | ind n ih => exact subs_any n fun m hm => get_any m (ih m hm)
theorem get_all (n : Nat) : GetOk n := get_any n (subs_all n)
end Go.Proofs.YtpjjnmdfgcfnmaaGreatDoor
