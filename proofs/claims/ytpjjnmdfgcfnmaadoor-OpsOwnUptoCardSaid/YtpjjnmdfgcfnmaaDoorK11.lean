/- Part 11 of a proof: lemmas and walks. -/
import Derived.Test.YtpjjnmdfgcfnmaaDoorK10
import Derived.Test.YtpjjnmdfgcfnmaaDoorK4
import Derived.Test.YtpjjnmdfgcfnmaaDoorK8
import Derived.Test.YtpjjnmdfgcfnmaaDoorK7
set_option linter.unusedVariables false
set_option linter.unusedSimpArgs false
set_option maxRecDepth 100000
set_option maxHeartbeats 40000000
namespace Go.Proofs.YtpjjnmdfgcfnmaaDoor
open Go.RowKit

abbrev OqpR1 : Array Value := #[.int .i32 0, .int .i32 0, .string ⟨#[]⟩, .slice none 0 0, .slice none 0 0, .int .i32 0, .int .i32 0, .bool false, .int .i64 0, .int .i64 0, .int .i64 0, .int .i64 0, .slice none 0 0, .slice none 0 0, .slice none 0 0, .slice none 0 0, .slice none 0 0, .int .i32 0, .slice none 0 0, .slice none 0 0]
abbrev OqpR2 : Array Value := #[.int .i32 0, .string ⟨#[]⟩, .slice none 0 0, .slice none 0 0, .int .i32 0, .int .i32 0, .bool false, .int .i64 0, .int .i64 0, .int .i64 0, .int .i64 0, .slice none 0 0, .slice none 0 0, .slice none 0 0, .slice none 0 0, .slice none 0 0, .int .i32 0, .slice none 0 0, .slice none 0 0]

structure Cnt where
 (parts multis depth : Nat)
def Cnt.row (k : Cnt) : Array Value := #[.int .i64 (k.parts : Int), .int .i64 (k.multis : Int), .int .i64 (k.depth : Int)]
structure Cnt.Ok (k : Cnt) : Prop where
 parts : k.parts ≤ 1024
 multis : k.multis ≤ 1024
 depth : k.depth ≤ 8
def gFailR {α : Type} (e : Int) : Rg α := fun _ p => .inr (e, p)
def Cnt.more (k : Cnt) (t : Int) : Cnt := if kindN t = 2 then ⟨k.parts, k.multis + 1, k.depth⟩ else ⟨k.parts + 1, k.multis, k.depth⟩
def Cnt.big (k : Cnt) (t : Int) : Bool := (decide ((k.multis : Int) > 1024) || decide ((k.parts : Int) > 1024)) || (kindN t == 2 && ((k.depth : Int) == 8))
def opWith (S : Int → Cnt → Rg (List OpC × Cnt)) (t : Int) (k : Cnt) : Rg (OpC × Cnt) :=
 if kindN t = 0 ∨ kindN t = 5 then gFailR 110
 else if t = 14 then (S 14 ⟨k.parts, k.multis, k.depth + 1⟩).map fun r => (.mk (zF 14) r.1, ⟨r.2.parts, r.2.multis, r.2.depth - 1⟩)
 else if t = 22 then (S 22 ⟨0, 0, 0⟩).map fun r => (.mk (zF 22) r.1, k)
 else if t = 101 then gWat.map fun f => (.mk f [], k)
 else (gFld t).map fun f => (.mk f [], k)
def itemOf (S : Int → Cnt → Rg (List OpC × Cnt)) (i t : Int) (k : Cnt) : Rg (List OpC × Cnt) :=
 (opWith S t (k.more t)).bind fun x => (S i x.2).map fun r => (x.1 :: r.1, r.2)
def gSubs : Nat → Int → Cnt → Rg (List OpC × Cnt)
 | 0, _, _ => gFailR 1
 | n + 1, i, k => gInt.bind fun t => if (t != -1 && !mayN t i) = true then gFailR 110 else gBool.bind fun e => if (e != (t == -1)) = true then gFailR 22 else gInt.bind fun z => if (z != -1) = true then gFailR 22
   else if e = true then Rg.ret ([], k) else if (k.more t).big t = true then gFailR 3 else itemOf (gSubs n) i t k
def pre (xs : List OpC) (r : ((List OpC × Cnt) × Nat) ⊕ (Int × Nat)) : ((List OpC × Cnt) × Nat) ⊕ (Int × Nat) :=
 match r with
 | .inl ((ys, k), q) => .inl ((xs ++ ys, k), q)
 | .inr e => .inr e
theorem pre_nil (r : ((List OpC × Cnt) × Nat) ⊕ (Int × Nat)) : pre [] r = r := by
 rcases r with ⟨⟨ys, k⟩, q⟩ | e <;> rfl
theorem pre_item {S : Int → Cnt → Rg (List OpC × Cnt)} {i t : Int} {k k' : Cnt} {l : List UInt8} {p q : Nat} {x : OpC} (xs : List OpC) (h : opWith S t (k.more t) l p = .inl ((x, k'), q)) : pre xs (itemOf S i t k l p) = pre (xs ++ [x]) (S i k' l q) := by
 unfold itemOf
 rw [gb_ev h]
 unfold Rg.map
 dsimp only
 rcases S i k' l q with ⟨⟨ys, k2⟩, q2⟩ | e
 · show (Sum.inl ((xs ++ x :: ys, k2), q2) : ((List OpC × Cnt) × Nat) ⊕ (Int × Nat)) = .inl ((xs ++ [x] ++ ys, k2), q2)
   rw [zL]
   rfl
 · rfl
theorem pre_itemno {S : Int → Cnt → Rg (List OpC × Cnt)} {i t : Int} {k : Cnt} {l : List UInt8} {p : Nat} {e : Int × Nat} (xs : List OpC) (h : opWith S t (k.more t) l p = .inr e) : pre xs (itemOf S i t k l p) = .inr e := by
 unfold itemOf
 rw [gb_no h]
 rfl
def RendX {α : Type} (X : List Nat) (B : Nat → Prop) (R c : Nat) (A : Option Addr) (l : List UInt8) (val : α → Value → World → Prop) (r : (α × Nat) ⊕ (Int × Nat)) (w : World) (e : Ending) (w' : World) : Prop :=
 match r with
 | .inl (x, q) => (∃ v, e = .returned v ∧ val x v w') ∧ Kp X w w' ∧ Rdr w' B R A c l q
 | .inr (er, q) => e = .panicked (fails R er) ∧ Kp X w w' ∧ Rdr w' B R A c l q
section
variable {α : Type} {X : List Nat} {B : Nat → Prop} {R c : Nat} {A : Option Addr} {l : List UInt8} {val : α → Value → World → Prop} {r : (α × Nat) ⊕ (Int × Nat)} {w w' : World}
theorem RendX.yes {v : Value} {x : α} {q : Nat} (hr : r = .inl (x, q)) (hv : val x v w') (hk : Kp X w w') (hR : Rdr w' B R A c l q) : RendX X B R c A l val r w (.returned v) w' := by
 subst hr
 exact ⟨⟨v, rfl, hv⟩, hk, hR⟩
theorem RendX.no {er : Int} {q : Nat} (hr : r = .inr (er, q)) (hk : Kp X w w') (hR : Rdr w' B R A c l q) : RendX X B R c A l val r w (.panicked (fails R er)) w' := by
 subst hr
 exact ⟨rfl, hk, hR⟩
end
def vSubs (base C d : Nat) (x : List OpC × Cnt) (v : Value) (w : World) : Prop :=
 Blk w C 97 x.2.row ∧ x.2.Ok ∧ x.2.depth = d ∧ ∃ A' c' Q b, v = .slice A' Q.length c' ∧ Q.map Prod.fst = x.1 ∧ Q.length ≤ 2048 ∧ base ≤ b ∧ FlatSt b (.slice A' Q.length c') Q w
def vGet (base C d : Nat) (x : OpC × Cnt) (v : Value) (w : World) : Prop :=
 Blk w C 97 x.2.row ∧ x.2.Ok ∧ x.2.depth = d ∧ ∃ cs, v = .agg cs.toArray ∧ At w (some base) x.1 cs
def SubsOk (n : Nat) : Prop := ∀ (B : Nat → Prop) (R c p C : Nat) (A : Option Addr) (l : List UInt8) (i : Int) (k : Cnt) (w : World), Rdr w B R A c l p → Blk w C 97 k.row → C ≠ R → ¬ B C → k.Ok → l.length - p < n →
 Calls Tryd.prog 85 #[.pointer (some ⟨R, 0, none⟩), .int .i32 i, .pointer (some ⟨C, 0, none⟩)] w fun e w' => RendX [R, C] B R c A l (vSubs w.heap.size C k.depth) (gSubs n i k l p) w e w'
def GetOk (n : Nat) : Prop := ∀ (B : Nat → Prop) (R c p C : Nat) (A : Option Addr) (l : List UInt8) (t : Int) (k : Cnt) (w : World), (Lit.int .i32 t).wf = true → Rdr w B R A c l p → Blk w C 97 k.row → C ≠ R → ¬ B C → k.Ok → (t = 14 → k.depth < 8) → l.length - p < n →
 Calls Tryd.prog 58 #[.pointer (some ⟨R, 0, none⟩), .int .i32 t, .pointer (some ⟨C, 0, none⟩)] w fun e w' => RendX [R, C] B R c A l (vGet w.heap.size C k.depth) (opWith (gSubs n) t k l p) w e w'
theorem Win.kp {W W' : World} {X : List Nat} {b e : Nat} {x : OpC} {cs : List Value} (h : Win W b e x cs) (hk : Kp X W W') (hX : ∀ y ∈ X, y < b) : Win W' b e x cs := by
 obtain ⟨w, h1, h2, h3, h4⟩ := h
 exact ⟨w, h1, h2, Nat.le_trans h3 hk.size, fun k hb hl => (hk.block k (by omega) (fun hx => by have := hX k hx; omega)).trans (h4 k hb hl)⟩
theorem FlatSt.kp {W W' : World} {X : List Nat} {base : Nat} {v : Value} {R : List (OpC × List Value)} (h : FlatSt base v R W) (hk : Kp X W W') (hX : ∀ y ∈ X, y < base) : FlatSt base v R W' :=
 ⟨own_kp h.own hk (fun x hx e => by have := (h.own.lt x e).1; have := hX x hx; omega), Nat.le_trans h.bs hk.size, fun r hr => by
   obtain ⟨b, e, h1, h2, h3⟩ := h.win r hr
   exact ⟨b, e, h1, h2.kp hk (fun y hy => Nat.lt_of_lt_of_le (hX y hy) h1), h3⟩⟩
theorem FlatSt.at_ {W : World} {base : Nat} {A : Option Addr} {c : Nat} {Q : List (OpC × List Value)} (h : FlatSt base (.slice A Q.length c) Q W) (hn : Q.length * 296 ≤ reachBytes) : SlAt W (some base) 29 19 296 ⟨A, Q.length, c⟩ Q.length (Q.flatMap Prod.snd) ∧ ∀ q ∈ Q, At W (some base) q.1 q.2 :=
 ⟨SlAt.of_own h.own hn, fun q hq => by
   obtain ⟨b, e, h1, h2, _⟩ := h.win q hq
   exact h2.at_.lo rfl h1⟩
def GetT (t : Int) (n : Nat) : Prop := ∀ (B : Nat → Prop) (R c p C : Nat) (A : Option Addr) (l : List UInt8) (k : Cnt) (w : World), (Lit.int .i32 t).wf = true → Rdr w B R A c l p → Blk w C 97 k.row → C ≠ R → ¬ B C → k.Ok → (t = 14 → k.depth < 8) → l.length - p < n →
 Calls Tryd.prog 58 #[.pointer (some ⟨R, 0, none⟩), .int .i32 t, .pointer (some ⟨C, 0, none⟩)] w fun e w' => RendX [R, C] B R c A l (vGet w.heap.size C k.depth) (opWith (gSubs n) t k l p) w e w'
theorem getX_of {n : Nat} {B : Nat → Prop} {R c p C : Nat} {A : Option Addr} {l : List UInt8} {t : Int} {k : Cnt} {w : World} {g : Rg OpF} (hc : Calls Tryd.prog 58 #[.pointer (some ⟨R, 0, none⟩), .int .i32 t, .pointer (some ⟨C, 0, none⟩)] w fun e w' => Rend B R c A l (vOpF w.heap.size) (g l p) w e w') (hop : opWith (gSubs n) t k l p = (g.map fun f => ((.mk f [], k) : OpC × Cnt)) l p) (hC : Blk w C 97 k.row) (hCR : C ≠ R) (hk : k.Ok) :
 Calls Tryd.prog 58 #[.pointer (some ⟨R, 0, none⟩), .int .i32 t, .pointer (some ⟨C, 0, none⟩)] w fun e w' => RendX [R, C] B R c A l (vGet w.heap.size C k.depth) (opWith (gSubs n) t k l p) w e w' := by
 refine hc.mono fun e w' h => ?_
 rw [hop]
 unfold Rg.map
 rcases hg : g l p with ⟨f, q⟩ | ⟨er, q⟩
 · rw [hg] at h
   obtain ⟨⟨v, rfl, d, a, k0, k1, k2, k3, k4, i, rfl, hF, hok⟩, hkp, hR⟩ := h
   exact ⟨⟨_, rfl, hC.kp hkp (by simpa using hCR), hk, rfl, _, rfl, .mk f d a k0 k1 k2 k3 k4 i nilS [] hok hF.d hF.a hF.k0 hF.k1 hF.k2 hF.k3 hF.k4 hF.i (SlAt.zero _ _ _ _ _) (fun _ h => by cases h)⟩, hkp.mono (fun x hx _ => by simp at hx; simp [hx]), hR⟩
 · rw [hg] at h
   obtain ⟨rfl, hkp, hR⟩ := h
   exact ⟨rfl, hkp.mono (fun x hx _ => by simp at hx; simp [hx]), hR⟩
theorem opWith_fld {S : Int → Cnt → Rg (List OpC × Cnt)} {t : Int} {k : Cnt} {l : List UInt8} {p : Nat} (h1 : ¬ (kindN t = 0 ∨ kindN t = 5)) (h2 : ¬ t ∈ ([14, 22, 101] : List Int)) : opWith S t k l p = ((gFld t).map fun f => ((.mk f [], k) : OpC × Cnt)) l p := by
 simp only [zH, zI, or_false, not_or] at h2
 unfold opWith
 rw [if_neg h1, if_neg h2.1, if_neg h2.2.1, if_neg h2.2.2]

theorem get_g2 (t : Int) (htt : t ∈ ([2, 13] : List Int)) (B : Nat → Prop) (R c p : Nat) (A : Option Addr) (l : List UInt8) (w : World) (cv : Value) (h : Rdr w B R A c l p) :
 Calls Tryd.prog 58 #[.pointer (some ⟨R, 0, none⟩), .int .i32 t, cv] w fun e w' => Rend B R c A l (vOpF w.heap.size) (gFld t l p) w e w' := by
 have hg : gFld t l p = ((gText 4096).bind fun x1 => (gInt).bind fun x2 => Rg.ret ({ { zF t with p := bs x1 } with ve := x2 } : OpF)) l p := by
  unfold gFld
  simp only [zH, zI, or_false] at htt
  rcases htt with rfl | rfl <;> rfl
 have HG0 := Hi hg
 obtain ⟨wa, hwa⟩ := xa w (OqpR2) 29
 have hza : wa.heap.size = w.heap.size + 1 := by rw [← hwa]; simp
 obtain ⟨w1, hw1⟩ := xa wa ((zF t).row nilS nilS nilS nilS nilS nilS nilS nilS nilS).toArray 29
 have hwf : (Lit.int .i32 t).wf = true := by
  simp only [zH, zI, or_false] at htt
  rcases htt with rfl | rfl <;> rfl
 have H0 := Hi (GSt.start h (t := t) hwf hwa hw1)
 obtain ⟨kn, hkn⟩ : ∃ k, k = kindN t := ⟨_, rfl⟩
 have hk0 : (kn == 0) = false := by
  rw [hkn]
  simp only [zH, zI, or_false] at htt
  rcases htt with rfl | rfl <;> decide
 have hk5 : (kn == 5) = false := by
  rw [hkn]
  simp only [zH, zI, or_false] at htt
  rcases htt with rfl | rfl <;> decide
 have HK : Hid (∀ W, Calls Tryd.prog 12 #[.int .i32 t] W fun e w' => e = .returned (.int .i64 kn) ∧ w' = W) := fun W => by rw [hkn]; exact kind_any t W
 clear hkn hwf
 obtain ⟨n0, n1, n2, n3, n4, n5, n6, n7, n8, n9, n10, n11, n12, n13, n14, n15, n16, n17, n18, n19, _⟩ := sw_all (cs := [(-10), 14, 22, 101, (-11), 11, 107, 1, 15, 19, 21, 5, 7, 120, 3, 4, 8, 12, 106, 18]) htt rfl
 have S : ((t == 2) = true) ∨ ((t == 2) = false ∧ (t == 13) = true) := by
  simp only [zH, zI, or_false] at htt
  rcases htt with rfl | rfl <;> decide
 clear htt
 rcases S with s0 | ⟨s0, s1⟩
 all_goals
  clear h hg
  go_enter Tryd.func58, Tryd.ntmps58
  go_wp2_with (first
   | (with_reducible refine wpAq 7 ?_
      refine wpList_newrow rfl rfl 29 rfl 7 rfl (.tmp 11) rfl rfl ((zF t).row nilS nilS nilS nilS nilS nilS nilS nilS nilS).toArray (fun _ => rfl) (show 7 < 160 by decide) zer_op isz_29 (row_one _ _ _ _ _ _ _ _ _ _) ?_
      rw [hw1])
   | (go_at_call 12
      refine (HK.out _).mono ?_
      rintro e w2 ⟨rfl, he⟩
      obtain rfl := he.symm
      refine Hid.out ?_))
  have ht := rText_any B R c p A l 4096 _ H0.out.rdr
  rcases h1 : (gText 4096) l p with ⟨x1, q1⟩ | ⟨er, q1⟩
  rotate_left
  · rw [h1] at ht
    have HT := Hi ht
    have HGE := Hi (HG0.out.trans (gb_no h1))
    clear ht h1
    refine Hi ?_
    go_wp2_with (go_at_call 89; refine HT.out.mono ?_; rintro e w2 ⟨rfl, hkp, hR⟩; have HN := Hi (H0.out.read hkp hR); clear hkp hR)
    exact ⟨rfl, Rend.no HGE.out HN.out.kp HN.out.rdr⟩
  rw [h1] at ht
  have HT := Hi ht
  have hg := HG0.out.trans (gb_ev h1)
  have HG1 := Hi hg
  have HX : Hid ((bs x1).size ≤ reachBytes) := by have := gText_most h1; unfold Hid reachBytes; rw [bs_size]; omega
  clear ht h1 hg HG0
  refine Hi ?_
  go_wp2_with (go_at_call 89; refine HT.out.mono ?_; rintro e w2 ⟨⟨v, rfl, rfl⟩, hkp, hR⟩; have HN := Hi (H0.out.read hkp hR); clear hkp hR; refine Hid.out ?_)
  have kc : w2.cell? ⟨w.heap.size + 1, 1, none⟩ = some (.string ⟨#[]⟩) := yC HN.out.blk 1 rfl
  have kf := HN.out.blk.frozen 1
  have H1 := Hi (HN.out.set_p (x := ⟨x1.toArray⟩) HX.out)
  clear HT H0 HN HX
  have ht := rInt_any B R c q1 A l _ H1.out.rdr
  rcases h1 : (gInt) l q1 with ⟨x2, q2⟩ | ⟨er, q2⟩
  rotate_left
  · rw [h1] at ht
    have HT := Hi ht
    have HGE := Hi (HG1.out.trans (gb_no h1))
    clear ht h1
    refine Hi ?_
    go_wp2_with (go_at_call 29; refine HT.out.mono ?_; rintro e w2 ⟨rfl, hkp, hR⟩; have HN := Hi (H1.out.read hkp hR); clear hkp hR)
    exact ⟨rfl, Rend.no HGE.out HN.out.kp HN.out.rdr⟩
  rw [h1] at ht
  have HT := Hi ht
  have hg := HG1.out.trans (gb_ev h1)
  have HG2 := Hi hg
  have HX := Hi (gInt_wf h1)
  clear ht h1 hg HG1
  refine Hi ?_
  go_wp2_with (go_at_call 29; refine HT.out.mono ?_; rintro e w3 ⟨⟨v, rfl, rfl⟩, hkp, hR⟩; have HN := Hi (H1.out.read hkp hR); clear hkp hR; refine Hid.out ?_)
  have kc : w3.cell? ⟨w.heap.size + 1, 5, none⟩ = some (.int .i32 0) := yC HN.out.blk 5 rfl
  have kf := HN.out.blk.frozen 5
  have H2 := Hi (HN.out.set_ve HX.out)
  clear HT H1 HN HX
  refine Hi ?_
  go_wp2_with (first
   | (with_reducible refine wpAq 159 ?_
      refine wpList_load_row rfl 29 (.tmp 7) rfl (w.heap.size + 1) rfl 29 _ _ _ H2.out.blk zU29 rfl isz_29 ?_)
   | (with_reducible refine wpSt 6 ?_
      refine wpList_store_row rfl 29 (.tmp 6) (.tmp 159) rfl w.heap.size (({ { zF t with p := bs x1 } with ve := x2 } : OpF).row nilS nilS nilS nilS nilS nilS nilS nilS nilS).toArray rfl rfl 29 _ H2.out.res isz_29 rfl (row_one _ _ _ _ _ _ _ _ _ _) ?_
      have hfin := H2.out.fin (({ { zF t with p := bs x1 } with ve := x2 } : OpF).row nilS nilS nilS nilS nilS nilS nilS nilS nilS).toArray
      have hbz := cells_setRow (cs := (({ { zF t with p := bs x1 } with ve := x2 } : OpF).row nilS nilS nilS nilS nilS nilS nilS nilS nilS).toArray) H2.out.res
      generalize hww : World.setRow _ _ _ = wz at hfin hbz ⊢
      have HFN := Hi hfin
      have HBZ := Hi hbz
      clear hww hfin hbz))
  refine bodyPost_ret (results_cell_row rfl _ _ w.heap.size 29 _ _ _ rfl HBZ.out zU29 rfl isz_29) rfl ?_
  exact Rend.yes HG2.out ⟨nilS, nilS, nilS, nilS, nilS, nilS, nilS, nilS, rfl, HFN.out.2.2, H2.out.ok⟩ HFN.out.1 HFN.out.2.1

def gOp (t : Int) : Rg OpC := fun l p => ((opWith (gSubs (l.length + 1)) t ⟨0, 1, 0⟩).map Prod.fst) l p
def gReq : Rg (Int × OpC) := gInt.bind fun z => gInt.bind fun t => (gOp t).map fun x => (z, x)
theorem sure_fail {α : Type} {e : Int} (h : e ≠ 0) : Sure (gFailR e : Rg α) := fun l p e' q hh => by
 unfold gFailR at hh
 simp only [Sum.inr.injEq, Prod.mk.injEq] at hh
 rw [← hh.1]
 exact h
theorem sure_ret {α : Type} (x : α) : Sure (Rg.ret x) := fun l p e q h => by cases h
theorem sure_idO : Sure gIdO := (sure_text _).bind fun _ => (sure_text _).map
theorem sure_aclO : Sure gAcl := sure_int.bind fun _ => sure_idO.map
theorem sure_fld (t : Int) : Sure (gFld t) := by
 unfold gFld
 by_cases h0 : t ∈ ([1, 15, 19] : List Int)
 · rw [if_pos h0]
   exact (sure_text _).bind fun _ => (sure_buf _).bind fun _ => (sure_aclO.get _ _).bind fun _ => sure_int.bind fun _ => sure_ret _
 rw [if_neg h0]
 by_cases h1 : t ∈ ([21] : List Int)
 · rw [if_pos h1]
   exact (sure_text _).bind fun _ => (sure_buf _).bind fun _ => (sure_aclO.get _ _).bind fun _ => sure_int.bind fun _ => sure_long.bind fun _ => sure_ret _
 rw [if_neg h1]
 by_cases h2 : t ∈ ([2, 13] : List Int)
 · rw [if_pos h2]
   exact (sure_text _).bind fun _ => sure_int.bind fun _ => sure_ret _
 rw [if_neg h2]
 by_cases h3 : t ∈ ([5] : List Int)
 · rw [if_pos h3]
   exact (sure_text _).bind fun _ => (sure_buf _).bind fun _ => sure_int.bind fun _ => sure_ret _
 rw [if_neg h3]
 by_cases h4 : t ∈ ([7] : List Int)
 · rw [if_pos h4]
   exact (sure_text _).bind fun _ => (sure_aclO.get _ _).bind fun _ => sure_int.bind fun _ => sure_ret _
 rw [if_neg h4]
 by_cases h5 : t ∈ ([120] : List Int)
 · rw [if_pos h5]
   exact (sure_text _).bind fun _ => sure_long.bind fun _ => sure_long.bind fun _ => sure_ret _
 rw [if_neg h5]
 by_cases h6 : t ∈ ([121, 6, 9, 103, 104] : List Int)
 · rw [if_pos h6]
   exact (sure_text _).bind fun _ => sure_ret _
 rw [if_neg h6]
 by_cases h7 : t ∈ ([3, 4, 8, 12] : List Int)
 · rw [if_pos h7]
   exact (sure_text _).bind fun _ => sure_bool.bind fun _ => sure_ret _
 rw [if_neg h7]
 by_cases h8 : t ∈ ([106, 18] : List Int)
 · rw [if_pos h8]
   exact (sure_text _).bind fun _ => sure_int.bind fun _ => sure_ret _
 rw [if_neg h8]
 by_cases h9 : t ∈ ([-10] : List Int)
 · rw [if_pos h9]
   exact sure_int.bind fun _ => (sure_idO.get _ _).bind fun _ => sure_ret _
 rw [if_neg h9]
 exact sure_ret _
theorem sure_texts : Sure gTexts := (sure_text _).get _ _
theorem sure_wat : Sure gWat := sure_long.bind fun _ => sure_texts.bind fun _ => sure_texts.bind fun _ => sure_texts.bind fun _ => sure_texts.bind fun _ => sure_texts.bind fun _ => sure_ret _
theorem sure_opWith {S : Int → Cnt → Rg (List OpC × Cnt)} (hS : ∀ i k, Sure (S i k)) (t : Int) (k : Cnt) : Sure (opWith S t k) := by
 unfold opWith
 split
 · exact sure_fail (by decide)
 split
 · exact (hS _ _).map
 split
 · exact (hS _ _).map
 split
 · exact sure_wat.map
 · exact (sure_fld t).map
theorem sure_subs : ∀ (N : Nat) (i : Int) (k : Cnt), Sure (gSubs N i k)
 | 0, i, k => sure_fail (by decide)
 | N + 1, i, k => by
   have h : gSubs (N + 1) i k = gInt.bind fun t => if (t != -1 && !mayN t i) = true then gFailR 110 else gBool.bind fun e => if (e != (t == -1)) = true then gFailR 22 else gInt.bind fun z => if (z != -1) = true then gFailR 22
    else if e = true then Rg.ret ([], k) else if (k.more t).big t = true then gFailR 3 else itemOf (gSubs N) i t k := rfl
   rw [h]
   refine sure_int.bind fun t => ?_
   split
   · exact sure_fail (by decide)
   refine sure_bool.bind fun e => ?_
   split
   · exact sure_fail (by decide)
   refine sure_int.bind fun z => ?_
   split
   · exact sure_fail (by decide)
   split
   · exact sure_ret _
   split
   · exact sure_fail (by decide)
   · exact (sure_opWith (sure_subs N) t _).bind fun x => (sure_subs N i x.2).map
theorem sure_gOp (t : Int) : Sure (gOp t) := fun l p => (sure_opWith (sure_subs _) t _).map l p
theorem sure_req : Sure gReq := sure_int.bind fun _ => sure_int.bind fun t => (sure_gOp t).map
def vOp (base : Nat) (x : OpC) (v : Value) (w : World) : Prop := ∃ cs, v = .agg cs.toArray ∧ At w (some base) x cs
theorem At.kp' {w w' : World} {b : Nat} {x : OpC} {cs : List Value} {X : List Nat} (h : At w (some b) x cs) (hk : Kp X w w') (hX : ∀ y ∈ X, y < b) : At w' (some b) x cs :=
 h.window rfl fun k hb hl => hk.block k hl fun hx => by have := hX k hx; omega
theorem opGet_any (B : Nat → Prop) (R c p : Nat) (A : Option Addr) (l : List UInt8) (t : Int) (w : World) (HG : GetT t (l.length + 1)) (ht : (Lit.int .i32 t).wf = true) (h : Rdr w B R A c l p) :
 Calls Tryd.prog 30 #[.pointer (some ⟨R, 0, none⟩), .int .i32 t] w fun e w' => Rend B R c A l (vOp w.heap.size) (gOp t l p) w e w' := by
 obtain ⟨wa, hwa⟩ := xa w (OqpR2) 29
 have hza : wa.heap.size = w.heap.size + 1 := by rw [← hwa]; simp
 have hba := zV hwa
 have hZa := zW hwa
 obtain ⟨w1, hw1⟩ := xa wa #[.int .i64 0, .int .i64 1, .int .i64 0] 97
 have hb1 := zV hw1
 have hz1 : w1.heap.size = w.heap.size + 2 := by rw [← hw1]; simp [hza]
 have hC1 : Blk w1 (w.heap.size + 1) 97 (Cnt.row ⟨0, 1, 0⟩) := by
  have : Blk w1 wa.heap.size 97 #[.int .i64 0, .int .i64 1, .int .i64 0] := by rw [← hw1]; exact Blk.new _ _ _
  rwa [hza] at this
 have hR1 : Rdr w1 B R A c l p := (h.later hba).later hb1
 have hRl := h.lt
 have hg := HG B R c p (w.heap.size + 1) A l ⟨0, 1, 0⟩ w1 ht hR1 hC1 (by omega) (h.new (by omega)) ⟨by decide, by decide, by decide⟩ (fun _ => by decide) (by omega)
 have HZ1 : Hid (Blk w1 w.heap.size 29 (OqpR2)) := hZa.below hb1 hZa.lt
 have HK1 : Hid (Kp [R] w w1) := (Kp.of_below hba).later hb1
 have HOL : Hid (∀ x, w.heap.size ≤ x → ¬ B x) := fun x hx => h.new (by omega)
 clear h hba hb1 hZa hC1 hR1 HG
 rcases h1 : opWith (gSubs (l.length + 1)) t ⟨0, 1, 0⟩ l p with ⟨⟨x, k'⟩, q⟩ | ⟨er, q⟩
 rotate_left
 · rw [h1] at hg
   have HS := Hi hg
   have HGE : Hid (gOp t l p = .inr (er, q)) := by unfold Hid gOp Rg.map; rw [h1]
   clear hg h1
   go_enter Tryd.func30, Tryd.ntmps30
   go_wp2_with (go_at_call 58; refine HS.out.mono ?_; rintro e w3 ⟨rfl, hkp, hR⟩; have HN := Hi hkp; have HR := Hi hR; clear hkp hR)
   exact ⟨rfl, Rend.no HGE.out (HK1.out.to HN.out (fun _ h _ => h) (fun y hy hl => by simp at hy; rcases hy with rfl | rfl; simp; omega)) HR.out⟩
 rw [h1] at hg
 have HS := Hi hg
 have HGE : Hid (gOp t l p = .inl (x, q)) := by unfold Hid gOp Rg.map; rw [h1]
 clear hg h1
 go_enter Tryd.func30, Tryd.ntmps30
 go_wp2_with (first
  | (go_at_call 58
     refine HS.out.mono ?_
     rintro e w3 ⟨⟨v, rfl, _, _, _, cs, rfl, hat⟩, hkp, hR⟩
     have hz3 := hkp.size
     have HAT := Hi hat
     have HK3 := Hi hkp
     have HR3 := Hi hR
     have HZ3 := Hi (HZ1.out.kp hkp (by simp; omega))
     have HCS : Hid (19 = cs.toArray.size) := (by unfold Hid; rw [zO, hat.len])
     have HIS : Hid ((Tryd.prog.info? 29).map (·.size) = some cs.toArray.size) := (by unfold Hid; rw [← HCS.out]; exact isz_29)
     have HON := Hi hat.one
     clear hat hkp hR)
  | (with_reducible refine wpSt 4 ?_
     refine wpList_store_row rfl 29 (.tmp 4) (.tmp 9) rfl w.heap.size cs.toArray rfl rfl 29 _ HZ3.out HIS.out HCS.out HON.out ?_
     have hbz := cells_setRow (cs := cs.toArray) HZ3.out
     have hkz : Kp [w.heap.size] _ _ := Kp.setRow (w := w3) w.heap.size cs.toArray
     have hgz := only_setRow' w3 w.heap.size cs.toArray
     generalize hww : World.setRow _ _ _ = wz at hkz hbz hgz ⊢
     have HBZ := Hi hbz
     have HKZ := Hi hkz
     have HGZ := Hi hgz
     clear hww hkz hbz hgz))
 refine bodyPost_ret (results_cell_row rfl _ _ w.heap.size 29 _ _ _ rfl HBZ.out zU29 rfl HIS.out) rfl ?_
 have hkA : Kp [R] w w3 := HK1.out.to HK3.out (fun _ h _ => h) (fun y hy hl => by simp at hy; rcases hy with rfl | rfl; simp; omega)
 refine Rend.yes HGE.out ⟨cs, rfl, (HAT.out.grown rfl HGZ.out (by omega)).lo rfl (by omega)⟩ (hkA.to HKZ.out (fun _ h _ => h) (fun y hy hl => by simp at hy; omega)) (HR3.out.kp HKZ.out (by simp; omega) (fun y hy => HOL.out y (by simp at hy; omega)))
theorem req_size : (Tryd.prog.info? 31).map (·.size) = some 20 := by kernel_rfl
def ReqAt (w : World) (base nb : Nat) (y : Int × OpC) : Prop := ∃ cs, Blk w nb 31 (Value.int .i32 y.1 :: cs).toArray ∧ At w (some base) y.2 cs
def zReq : List Value := [.int .i32 0, .int .i32 0, .string ⟨#[]⟩, .slice none 0 0, .slice none 0 0, .int .i32 0, .int .i32 0, .bool false, .int .i64 0, .int .i64 0, .int .i64 0, .int .i64 0, .slice none 0 0, .slice none 0 0, .slice none 0 0, .slice none 0 0, .slice none 0 0, .int .i32 0, .slice none 0 0, .slice none 0 0]
def DidQ (B : Nat → Prop) (R c : Nat) (A : Option Addr) (l : List UInt8) (nb : Nat) (r : ((Int × OpC) × Nat) ⊕ (Int × Nat)) (w : World) (e : Ending) (w' : World) : Prop :=
 match r with
 | .inl (x, q) => (∃ v, e = .returned v) ∧ ReqAt w' w.heap.size nb x ∧ Kp [R, nb] w w' ∧ Rdr w' B R A c l q
 | .inr (er, q) => e = .panicked (fails R er) ∧ Kp [R, nb] w w' ∧ Rdr w' B R A c l q
structure QSt (w0 : World) (B : Nat → Prop) (R c : Nat) (A : Option Addr) (l : List UInt8) (nb q : Nat) (cs : Array Value) (w : World) : Prop where
 rdr : Rdr w B R A c l q
 blk : Blk w nb 31 cs
 kp : Kp [R, nb] w0 w
 nR : R ≠ nb
 nB : ¬ B nb
 old : R < w0.heap.size ∧ nb < w0.heap.size
section
variable {w0 w w' : World} {B : Nat → Prop} {R c nb q q' : Nat} {A : Option Addr} {l : List UInt8} {cs : Array Value} {er : Int} {r : ((Int × OpC) × Nat) ⊕ (Int × Nat)}
theorem QSt.read (h : QSt w0 B R c A l nb q cs w) (hk : Kp [R] w w') (hR : Rdr w' B R A c l q') : QSt w0 B R c A l nb q' cs w' :=
 ⟨hR, h.blk.kp hk (by simpa using h.nR.symm), h.kp.to hk (fun _ h _ => h) (fun y hy _ => by simp at hy; simp [hy]), h.nR, h.nB, h.old⟩
theorem QSt.set (h : QSt w0 B R c A l nb q cs w) (i : Nat) (v : Value) : QSt w0 B R c A l nb q (cs.setIfInBounds i v) (w.setCell ⟨nb, i, none⟩ v) :=
 ⟨h.rdr.kp (Kp.setCell ⟨nb, i, none⟩ v) (by simpa using h.nR) (by simpa using h.nB), h.blk.set_ i v, h.kp.to (Kp.setCell ⟨nb, i, none⟩ v) (fun _ h _ => h) (fun y hy _ => by simp at hy; simp [hy]), h.nR, h.nB, h.old⟩
theorem QSt.no (h : QSt w0 B R c A l nb q cs w) (hk : Kp [R] w w') (hR : Rdr w' B R A c l q') (hr : r = .inr (er, q')) : DidQ B R c A l nb r w0 (.panicked (fails R er)) w' := by
 subst hr
 exact ⟨rfl, (h.read hk hR).kp, hR⟩
theorem QSt.row (h : QSt w0 B R c A l nb q cs w) {cs' : Array Value} (hb : Blk w' nb 31 cs') (hg : w.grownBy w' (some nb)) : QSt w0 B R c A l nb q cs' w' :=
 ⟨h.rdr.kp (Kp.of_grown hg) (by simpa using h.nR) (by simpa using h.nB), hb, h.kp.to (Kp.of_grown hg) (fun _ h _ => h) (fun y hy _ => by simp at hy; simp [hy]), h.nR, h.nB, h.old⟩
end
theorem decodeQ_any (B : Nat → Prop) (R c p nb : Nat) (A : Option Addr) (l : List UInt8) (w : World) (HG : ∀ z q t q', gInt l p = .inl (z, q) → gInt l q = .inl (t, q') → GetT t (l.length + 1)) (h : QSt w B R c A l nb p zReq.toArray w) :
 Calls Tryd.prog 28 #[.pointer (some ⟨R, 0, none⟩), .pointer (some ⟨nb, 0, none⟩)] w fun e w' => DidQ B R c A l nb (gReq l p) w e w' := by
 have hold := h.old
 have H0 := Hi h
 have HGH := Hi HG
 clear h HG
 have hg : gReq l p = (gInt.bind fun z => gInt.bind fun t => (gOp t).map fun x => (z, x)) l p := rfl
 have HG0 := Hi hg
 clear hg
 go_enter Tryd.func28, Tryd.ntmps28
 have ht := rInt_any B R c p A l _ H0.out.rdr
 rcases h1 : gInt l p with ⟨z, q1⟩ | ⟨er, q1⟩
 rotate_left
 · rw [h1] at ht
   have HT := Hi ht
   have HGE := Hi (HG0.out.trans (gb_no h1))
   clear ht h1
   go_wp2_with (go_at_call 29; refine HT.out.mono ?_; rintro e w2 ⟨rfl, hkp, hR⟩; have HR := Hi (H0.out.no hkp hR HGE.out); clear hkp hR)
   exact ⟨rfl, HR.out⟩
 rw [h1] at ht
 have HT := Hi ht
 have HG1 := Hi (HG0.out.trans (gb_ev h1))
 have HGQ := Hi (fun t q' => HGH.out z q1 t q' h1)
 clear ht h1 HG0 HGH
 go_wp2_with (go_at_call 29; refine HT.out.mono ?_; rintro e w2 ⟨⟨v, rfl, rfl⟩, hkp, hR⟩; have HN := Hi (H0.out.read hkp hR); clear hkp hR; refine Hid.out ?_)
 clear HT H0
 have kc := yC HN.out.blk (u := .int .i32 0) 0 rfl
 have kf := HN.out.blk.frozen 0
 obtain ⟨w3, hw3⟩ : ∃ w3, w2.setCell ⟨nb, 0, none⟩ (.int .i32 z) = w3 := ⟨_, rfl⟩
 have H1 : Hid (QSt w B R c A l nb q1 (Value.int .i32 z :: [.int .i32 0, .string ⟨#[]⟩, .slice none 0 0, .slice none 0 0, .int .i32 0, .int .i32 0, .bool false, .int .i64 0, .int .i64 0, .int .i64 0, .int .i64 0, .slice none 0 0, .slice none 0 0, .slice none 0 0, .slice none 0 0, .slice none 0 0, .int .i32 0, .slice none 0 0, .slice none 0 0]).toArray w3) := by
  unfold Hid
  rw [← hw3]
  exact HN.out.set 0 (.int .i32 z)
 have ht := rInt_any B R c q1 A l _ H1.out.rdr
 rcases h1 : gInt l q1 with ⟨t, q2⟩ | ⟨er, q2⟩
 rotate_left
 · rw [h1] at ht
   have HT := Hi ht
   have HGE := Hi (HG1.out.trans (gb_no h1))
   clear ht h1
   refine Hi ?_
   go_wp2_with (go_at_call 29; refine HT.out.mono ?_; rintro e w4 ⟨rfl, hkp, hR⟩; have HR := Hi (H1.out.no hkp hR HGE.out); clear hkp hR)
   exact ⟨rfl, HR.out⟩
 rw [h1] at ht
 have HT := Hi ht
 have HG2 := Hi (HG1.out.trans (gb_ev h1))
 have HWF := Hi (gInt_wf h1)
 have HGT := Hi (HGQ.out t q2 h1)
 clear ht h1 HG1 HGQ
 refine Hi ?_
 go_wp2_with (go_at_call 29; refine HT.out.mono ?_; rintro e w4 ⟨⟨v, rfl, rfl⟩, hkp, hR⟩; have H2 := Hi (H1.out.read hkp hR); have hz4 := hkp.size; clear hkp hR; refine Hid.out ?_)
 have hz3 : w2.heap.size ≤ w3.heap.size := by rw [← hw3]; simp
 have hzn := HN.out.kp.size
 clear HT H1 kc kf hw3
 have ht := opGet_any B R c q2 A l t _ HGT.out HWF.out H2.out.rdr
 rcases h1 : gOp t l q2 with ⟨x, q3⟩ | ⟨er, q3⟩
 rotate_left
 · rw [h1] at ht
   have HT := Hi ht
   have HGE : Hid (gReq l p = .inr (er, q3)) := HG2.out.trans (by unfold Rg.map; rw [h1])
   clear ht h1
   refine Hi ?_
   go_wp2_with (go_at_call 30; refine HT.out.mono ?_; rintro e w5 ⟨rfl, hkp, hR⟩; have HR := Hi (H2.out.no hkp hR HGE.out); clear hkp hR)
   exact ⟨rfl, HR.out⟩
 rw [h1] at ht
 have HT := Hi ht
 have HGE : Hid (gReq l p = .inl ((z, x), q3)) := HG2.out.trans (by unfold Rg.map; rw [h1])
 clear ht h1 HG2
 refine Hi ?_
 go_wp2_with (first
  | (go_at_call 30
     refine HT.out.mono ?_
     rintro e w5 ⟨⟨v, rfl, cs, rfl, hat⟩, hkp, hR⟩
     have H3 := Hi (H2.out.read hkp hR)
     have HAT := Hi hat
     have HNW : Hid (∀ v ∈ cs, v.oneCell' = true) := fun v hv => (by
      have := hat.one
      rw [zQ] at this
      exact this v (by simpa using hv))
     have HL : Hid (cs.length = 19) := hat.len
     clear hkp hR hat)
  | (with_reducible refine wpSt 10 ?_
     refine wpList_store_mid rfl 29 (.tmp 10) (.tmp 9) rfl nb 1 (.agg cs.toArray) rfl rfl H3.out.blk (news := cs) rfl (by rw [HL.out]; exact isz_29) (by rw [HL.out]; exact Nat.le_refl 20) HNW.out ?_
     intro w6 cn hbn hxn hgn hzn6
     have H4 := Hi (H3.out.row hbn hgn)
     have HXN := Hi hxn
     have HGN := Hi hgn
     clear hbn hxn hgn hzn6))

 go_end0
 unfold DidQ
 rw [HGE.out]
 have hcn : cn = (Value.int .i32 z :: cs).toArray := by
  apply Array.toList_inj.1
  rw [HXN.out, HL.out]
  simp
 have h4 := H4.out
 rw [hcn] at h4
 exact ⟨⟨_, rfl⟩, ⟨cs, h4.blk, (HAT.out.grown rfl HGN.out (by omega)).lo rfl (by omega)⟩, h4.kp, h4.rdr⟩
theorem decQ_enters (args : Array Value) (W : World) : (callFunc 28 args).run Tryd.prog W = .ok (.enter 28 args) W := by
 have hn : (Tryd.f28.name == "runtime.NumGoroutine") = false := by as_aux_lemma => kernel_rfl
 have hb : Tryd.f28.body.isNone = false := by as_aux_lemma => kernel_rfl
 have hn' : ¬ Tryd.f28.name = "runtime.NumGoroutine" := by simpa using hn
 have hb' : ¬ Tryd.f28.body = none := fun h => by rw [h] at hb; cases hb
 simp [callFunc, Tryd.func28, hn', hb']
def allAtO {α : Type} (r : (α × Nat) ⊕ (Int × Nat)) : Int := match r with | .inl (_, q) => q | .inr (_, q) => q
theorem rAtO_of {α : Type} (r : (α × Nat) ⊕ (Int × Nat)) : ((rAt (rOf r) : Nat) : Int) = allAtO r := by rcases r with ⟨x, q⟩ | ⟨e, q⟩ <;> rfl
theorem allQ_any (c n nb b0 : Nat) (A : Option Addr) (l : List UInt8) (w : World) (HG : ∀ z q t q', gInt l 0 = .inl (z, q) → gInt l q = .inl (t, q') → GetT t (l.length + 1)) (hr : Reads w b0 1 A n (bcells l)) (hnc : n ≤ c) (hn : n ≤ 140737488355328) (hnil : A = none → c = 0) (hE : Env w)
 (hb0 : b0 ≤ nb) (hg : 0 < b0 ∧ 1 < b0) (hN : Blk w nb 31 zReq.toArray) :
 Calls Tryd.prog 27 #[.slice A n c, .func (.func 28) #[] #[.pointer (some ⟨nb, 0, none⟩)]] w fun e w' => e = .returned (.tuple #[.int .i64 (allAtO (gReq l 0)), .int .i64 (allE l (gReq l 0))]) ∧ Kp [nb] w w' ∧ (0 ≤ allAtO (gReq l 0) ∧ allAtO (gReq l 0) ≤ l.length) ∧ ∀ x q, gReq l 0 = .inl (x, q) → ReqAt w' w.heap.size nb x := by
 have hnl := hN.lt
 refine (all_any (fun x => x < b0) c n A l 28 #[] #[.pointer (some ⟨nb, 0, none⟩)] [nb] (fun W => ∀ x q, gReq l 0 = .inl (x, q) → ReqAt W (w.heap.size + 4) nb x) (rOf (gReq l 0)) w (hr.more (by omega)) hnc hn hnil (fun x hx => by omega) hE.tab hg
  (fun h ad e => by obtain ⟨ad', e', hb, _⟩ := hr.2 h; rw [e] at e'; cases e'; exact hb) (fun x hx => by simp at hx; omega) decQ_enters (fun W hk hz hR => ?_)).mono ?_
 · refine (decodeQ_any (fun x => x < b0) (w.heap.size + 1 + 1) c 0 nb A l W HG ⟨hR, hN.kp hk (by simp), Kp.refl _ _, by omega, by omega, by omega⟩).mono fun e w' h => ?_
   unfold Did
   rcases hres : gReq l 0 with ⟨x, q⟩ | ⟨er, q⟩
   · rw [hres] at h
     obtain ⟨h1, h2, h3, h4⟩ := h
     rw [hz] at h2
     exact ⟨h1, fun x' q' hx => by cases hx; exact h2, h3, h4⟩
   · rw [hres] at h
     obtain ⟨h1, h3, h4⟩ := h
     exact ⟨h1, (fun x' q' hx => by cases hx), h3, h4⟩
 · rintro e w' ⟨rfl, hk, ⟨W', hP, hk2, hrd, hz⟩, _⟩
   refine ⟨by rw [rAllE_of sure_req, rAtO_of], hk, by have := hrd.here; rw [← rAtO_of]; omega, fun x q hx => ?_⟩
   obtain ⟨cs, hb, ha⟩ := hP x q hx
   exact ⟨cs, hb.kp hk2 (by simp; omega), (ha.kp' hk2 (by simp)).lo rfl (by omega)⟩
def decO (l : List UInt8) : (Int × Int) ⊕ (Int × OpC) := match gReq l 0 with
 | .inr (e, q) => .inl (q, e)
 | .inl (x, q) => if q < l.length then .inl (q, 21) else .inr x
def Decoded (l : List UInt8) (w : World) (e : Ending) (w' : World) : Prop := Below w.heap.size w w' ∧ match decO l with
 | .inl (q, E) => E ≠ 0 ∧ (0 ≤ q ∧ q ≤ l.length) ∧ e = .returned (.tuple #[.agg zReq.toArray, .int .i64 q, .int .i64 E])
 | .inr (z, x) => ∃ cs : List Value, e = .returned (.tuple #[.agg (Value.int .i32 z :: cs).toArray, .int .i64 0, .int .i64 0]) ∧ At w' (some w.heap.size) x cs
theorem decO_no {l : List UInt8} (h : allE l (gReq l 0) ≠ 0) : decO l = .inl (allAtO (gReq l 0), allE l (gReq l 0)) := by
 unfold decO
 unfold allE at h ⊢
 unfold allAtO
 rcases hr : gReq l 0 with ⟨x, q⟩ | ⟨er, q⟩
 · rw [hr] at h
   dsimp only at h ⊢
   by_cases hq : q < l.length
   · rw [if_pos hq, if_pos hq]
   · rw [if_neg hq] at h; exact absurd rfl h
 · rfl
theorem decO_yes {l : List UInt8} (h : allE l (gReq l 0) = 0) : ∃ x q, gReq l 0 = .inl (x, q) ∧ decO l = .inr x := by
 unfold decO
 unfold allE at h
 rcases hr : gReq l 0 with ⟨x, q⟩ | ⟨er, q⟩
 · rw [hr] at h
   dsimp only at h ⊢
   by_cases hq : q < l.length
   · rw [if_pos hq] at h; cases h
   · exact ⟨x, q, rfl, by rw [if_neg hq]⟩
 · rw [hr] at h
   exact absurd h (sure_req _ _ _ _ hr)
theorem results_cell_tmp2 {P : Program} {fn : Func} {p q r : Tmp} {ty : TypeId} (h : fn.results = #[.cell p ty, .tmp q, .tmp r]) (tmps : Array Value) (w : World) (g : Nat) (t : TypeId) (cs : Array Value) (d : TypeDesc) (u x : Value)
 (hp : tmps.getD p undef = .pointer (some ⟨g, 0, none⟩)) (hq : tmps.getD q undef = u) (hr : tmps.getD r undef = x) (hg : Blk w g t cs) (hu : P.underlying ty = some d) (hd : (match d with | .struct _ | .array _ _ => true | _ => false) = true) (hi : (P.info? ty).map (·.size) = some cs.size) :
 (results fn tmps).run P w = .ok (.tuple #[.agg cs, u, x]) w := by
 have hp' : tmps[p]?.getD undef = .pointer (some ⟨g, 0, none⟩) := by simpa using hp
 have hq' : tmps[q]?.getD undef = u := by simpa using hq
 have hr' : tmps[r]?.getD undef = x := by simpa using hr
 simp [results, h, hp', hq', hr', asAddr, run_loadVar_row w g t ty cs (0, 0) d hg hu hd hi]
theorem opDecode_of (c n : Nat) (A : Option Addr) (l : List UInt8) (w : World) (HG : ∀ z q t q', gInt l 0 = .inl (z, q) → gInt l q = .inl (t, q') → GetT t (l.length + 1)) (hr : Reads w w.heap.size 1 A n (bcells l)) (hnc : n ≤ c) (hn : n ≤ 140737488355328) (hnil : A = none → c = 0) (hE : Env w) :
 Calls Tryd.prog 13 #[.slice A n c] w fun e w' => Decoded l w e w' := by
 obtain ⟨w2, hw2⟩ : ∃ w2, (w.alloc (.cells (OqpR1) 31)).alloc (.cells (OqpR1) 31) = w2 := ⟨_, rfl⟩
 have hz2 : w2.heap.size = w.heap.size + 2 := by rw [← hw2]; simp
 have hb2 : Below w.heap.size w w2 := by rw [← hw2]; exact (zT.alloc zR _).alloc (by simp) _
 have br : Blk w2 w.heap.size 31 (OqpR1) := by rw [← hw2]; exact (Blk.new _ _ _).alloc _
 have bn : Blk w2 (w.heap.size + 1) 31 (OqpR1) := by rw [← hw2]; exact Blk.new' (by simp)
 have hA := allQ_any c n (w.heap.size + 1) w.heap.size A l w2 HG (hr.below hb2) hnc hn hnil (hE.below hb2) (by omega) ⟨hE.g1, hE.g2⟩ bn
 have HB2 := Hi hb2
 have HR := Hi br
 have hmf : ∀ (fn : Fn) (first cap : Array Value) (w : World), (Instr.makeFunc fn first cap).run Tryd.prog w = .ok (.func fn first cap) w := fun _ _ _ _ => rfl
 clear hE hb2 br bn hr HG
 by_cases h0 : allE l (gReq l 0) = 0
 rotate_left
 · have HD := Hi (decO_no h0)
   obtain ⟨E, hEE⟩ : ∃ E, E = allE l (gReq l 0) := ⟨_, rfl⟩
   obtain ⟨q, hq⟩ : ∃ q, q = allAtO (gReq l 0) := ⟨_, rfl⟩
   rw [← hEE, ← hq] at hA HD
   rw [← hEE] at h0
   have HA := Hi hA
   have h1 : (E == 0) = false := by simp [h0]
   have h2 : (E != 0) = true := by simp [h0]
   have HNE := Hi h0
   clear hA hEE h0 hq
   go_enter Tryd.func13, Tryd.ntmps13
   go_wp2_with (first
    | (go_at_call 27; refine HA.out.mono ?_; rintro e w3 ⟨rfl, hk, hqb, _⟩; have HQB := Hi hqb; have hR3 := HR.out.kp hk (by simp); have hb3 : Below w.heap.size w w3 := HB2.out.trans (hk.below (by simp) (by omega)); have HR3 := Hi hR3; have HB3 := Hi hb3; clear hk hR3 hb3 hqb)
    | (with_reducible refine wpSt 2 ?_
       refine wpList_store_row rfl 31 (.tmp 2) (.tmp 16) rfl w.heap.size (OqpR1) rfl rfl 31 _ HR3.out (by rw [req_size]; rfl) rfl (by simp [Value.oneCell']) ?_
       generalize hww : World.setRow _ _ _ = w4
       have HB4 : Hid (Below w.heap.size w w4) := by unfold Hid; rw [← hww]; exact below_setRow' HB3.out zR _
       have HR4 : Hid (Blk w4 w.heap.size 31 (OqpR1)) := by unfold Hid; rw [← hww]; exact cells_setRow HR3.out
       clear hww))
   refine bodyPost_ret (results_cell_tmp2 rfl _ _ w.heap.size 31 (OqpR1) _ (.int .i64 q) (.int .i64 E) rfl rfl rfl HR4.out zU31 rfl (by rw [req_size]; rfl)) rfl ?_
   refine ⟨HB4.out, ?_⟩
   rw [HD.out]
   exact ⟨HNE.out, HQB.out, rfl⟩
 · obtain ⟨⟨z, x⟩, q, hres, hd⟩ := decO_yes h0
   rw [h0] at hA
   have hA' : Calls Tryd.prog 27 #[.slice A n c, .func (.func 28) #[] #[.pointer (some ⟨w.heap.size + 1, 0, none⟩)]] w2 fun e w' => e = .returned (.tuple #[.int .i64 (allAtO (gReq l 0)), .int .i64 0]) ∧ Kp [w.heap.size + 1] w2 w' ∧ ReqAt w' w2.heap.size (w.heap.size + 1) (z, x) := hA.mono fun e w' ⟨h1, h2, _, h3⟩ => ⟨h1, h2, h3 _ _ hres⟩
   obtain ⟨q', hq⟩ : ∃ q, q = allAtO (gReq l 0) := ⟨_, rfl⟩
   rw [← hq] at hA'
   have HA := Hi hA'
   have HD := Hi hd
   clear hA hA' h0 hres hq hd
   go_enter Tryd.func13, Tryd.ntmps13
   go_wp2_with (first
    | (go_at_call 27
       refine HA.out.mono ?_
       rintro e w3 ⟨rfl, hk, cs, hb, hat⟩
       have hR3 := HR.out.kp hk (by simp)
       have hb3 : Below w.heap.size w w3 := HB2.out.trans (hk.below (by simp) (by omega))
       have HR3 := Hi hR3
       have HB3 := Hi hb3
       obtain ⟨cq, hcq⟩ : ∃ x, x = (Value.int .i32 z :: cs).toArray := ⟨_, rfl⟩
       have hb : Blk w3 (w.heap.size + 1) 31 (Value.int .i32 z :: cs).toArray := hb
       rw [← hcq] at hb
       have HX := Hi hb
       have HAT := Hi hat
       have HCQ := Hi hcq
       have HSZ : Hid (20 = cq.size) := (by unfold Hid; rw [hcq, zO, zM, hat.len])
       have HIS : Hid ((Tryd.prog.info? 31).map (·.size) = some cq.size) := (by unfold Hid; rw [← HSZ.out]; exact req_size)
       have HON : Hid (cq.all (·.oneCell') = true) := (by
        unfold Hid
        have := hat.one
        rw [zQ] at this ⊢
        intro v hv
        rw [hcq] at hv
        rcases zH.1 (by simpa using hv) with rfl | hv
        · rfl
        · exact this v (by simpa using hv))
       clear hk hR3 hb3 hb hat hcq)
    | (with_reducible refine wpAq 19 ?_
       refine wpList_load_row rfl 31 (.tmp 5) rfl (w.heap.size + 1) rfl 31 _ _ _ HX.out zU31 rfl HIS.out ?_)
    | (with_reducible refine wpSt 2 ?_
       refine wpList_store_row rfl 31 (.tmp 2) (.tmp 19) rfl w.heap.size cq rfl rfl 31 _ HR3.out HIS.out HSZ.out HON.out ?_
       generalize hww : World.setRow _ _ _ = w4
       have HB4 : Hid (Below w.heap.size w w4) := by unfold Hid; rw [← hww]; exact below_setRow' HB3.out zR _
       have HR4 : Hid (Blk w4 w.heap.size 31 cq) := by unfold Hid; rw [← hww]; exact cells_setRow HR3.out
       have HG4 : Hid (w3.grownBy w4 (some w.heap.size)) := by unfold Hid; rw [← hww]; exact only_setRow' _ _ _
       clear hww))
   refine bodyPost_ret (results_cell_tmp2 rfl _ _ w.heap.size 31 cq _ (.int .i64 0) (.int .i64 0) rfl rfl rfl HR4.out zU31 rfl HIS.out) rfl ?_
   refine ⟨HB4.out, ?_⟩
   rw [HD.out]
   exact ⟨cs, by rw [← HCQ.out], (HAT.out.grown rfl HG4.out (by omega)).lo rfl (by omega)⟩

def pListsB (f : OpF) : List UInt8 := f.lists.flatMap fun L => bInt L.length ++ bTexts L
def fldB (f : OpF) : List UInt8 :=
 if f.t ∈ ([1, 15, 19] : List Int) then bBuf f.p.data.toList ++ bBuf f.l ++ (bInt f.L.length ++ pAclsB f.L) ++ bInt f.fl
 else if f.t ∈ ([21] : List Int) then bBuf f.p.data.toList ++ bBuf f.l ++ (bInt f.L.length ++ pAclsB f.L) ++ bInt f.fl ++ bLong f.tl
 else if f.t ∈ ([2, 13] : List Int) then bBuf f.p.data.toList ++ bInt f.ve
 else if f.t ∈ ([5] : List Int) then bBuf f.p.data.toList ++ bBuf f.l ++ bInt f.ve
 else if f.t ∈ ([7] : List Int) then bBuf f.p.data.toList ++ (bInt f.L.length ++ pAclsB f.L) ++ bInt f.ve
 else if f.t ∈ ([120] : List Int) then bBuf f.p.data.toList ++ bLong f.ct ++ bLong f.by_
 else if f.t ∈ ([121, 6, 9, 103, 104] : List Int) then bBuf f.p.data.toList
 else if f.t ∈ ([3, 4, 8, 12] : List Int) then bBuf f.p.data.toList ++ bBool f.wa
 else if f.t ∈ ([106, 18] : List Int) then bBuf f.p.data.toList ++ bInt f.fl
 else if f.t ∈ ([-10] : List Int) then bInt f.to ++ (bInt f.I.length ++ pIdsB f.I)
 else if f.t = 101 then bLong f.zx ++ pListsB f
 else []
structure PutSt (w0 w w1 : World) (base g : Nat) (v : Value) (l : List UInt8) (cs : Array Value) : Prop where
 base0 : w0.heap.size ≤ base
 bg : base ≤ g
 b0 : Below w0.heap.size w0 w
 b1 : Below w.heap.size w w1
 bw : base ≤ w.heap.size
 z1 : w1.heap.size = w.heap.size + 1
 wr : Wr w1 base g v l
 blk : Blk w1 w.heap.size 29 cs
 ne : w.heap.size ∉ g :: v.ownBlock.toList
 own : ∀ x, v.ownBlock = some x → w0.heap.size ≤ x
theorem PutSt.mk' {w0 w : World} {base g : Nat} {v : Value} {l : List UInt8} (cs : Array Value) (hw : w0.heap.size ≤ base) (hg : base ≤ g) (hb0 : Below w0.heap.size w0 w) (hv : Wr w base g v l) (hbase : base ≤ w.heap.size) : PutSt w0 w (w.alloc (.cells cs 29)) base g v l cs where
 base0 := hw
 bg := hg
 b0 := hb0
 b1 := zT.alloc zR _
 bw := hbase
 z1 := by simp
 wr := hv.later (zT.alloc zR _)
 blk := Blk.new _ _ _
 ne := fun hx => by
  rcases zH.1 hx with hx | hx
  · have := hv.lt
    omega
  · have := (hv.2.lt w.heap.size (by simpa using hx)).2
    omega
 own := fun x hx => Nat.le_trans hw (hv.2.lt x hx).1
section
variable {w0 w w1 W : World} {base g : Nat} {v v' : Value} {l k : List UInt8} {cs : Array Value}
theorem PutSt.cell (h : PutSt w0 w w1 base g v l cs) (hp : Wrote base g v v' l k w1 W) (j : Nat) {u : Value} (hu : cs[j]? = some u) : W.cell? ⟨w.heap.size, j, none⟩ = some u := yC (h.blk.kp hp.2.1 h.ne) j hu
theorem PutSt.below (h : PutSt w0 w w1 base g v l cs) (hp : Wrote base g v v' l k w1 W) : Below w0.heap.size w0 W :=
 (h.b0.trans (h.b1.mono h.b0.size)).trans (hp.below (B := w0.heap.size) (Nat.le_trans h.base0 h.bg) h.own (Nat.le_trans h.b0.size h.b1.size))
theorem PutSt.le (h : PutSt w0 w w1 base g v l cs) (hp : Wrote base g v v' l k w1 W) : base ≤ W.heap.size := Nat.le_trans h.bw (Nat.le_trans h.b1.size hp.size)
theorem PutSt.sep (h : PutSt w0 w w1 base g v l cs) (hp : Wrote base g v v' l k w1 W) {W' : World} {size n : Nat} {A : Option Addr} {xs : List Value} (hr : Reads W' w0.heap.size size A n xs) : 0 < n → ∀ ad, A = some ad → ad.block ≠ g ∧ v'.ownBlock ≠ some ad.block := fun hn ad e => by
 obtain ⟨ad', e', hb, _⟩ := hr.2 hn
 rw [e] at e'
 injection e' with e'
 subst e'
 have h1 := h.base0
 have h2 := h.bg
 refine ⟨by omega, fun e2 => ?_⟩
 have := (hp.1.2.lt _ e2).1
 omega
end

theorem put_g0 {w0 w : World} {lo : Option Nat} (t : Int) (htt : t ∈ ([1, 15, 19] : List Int)) (f : OpF) (d a k0 k1 k2 k3 k4 i s : Sl) (base g : Nat) (v : Value) (l : List UInt8) (ht : f.t = t) (h : FAt w0 lo f d a k0 k1 k2 k3 k4 i) (hw : w0.heap.size ≤ base) (hg : base ≤ g) (hb0 : Below w0.heap.size w0 w) (hv : Wr w base g v l) (hbase : base ≤ w.heap.size) (hsz : l.length + (fldB f).length + 64 ≤ 140737488355328) :
 Calls Tryd.prog 24 #[.pointer (some ⟨g, 0, none⟩), .agg (f.row d a k0 k1 k2 k3 k4 i s).toArray] w fun e w' => e = .returned (.tuple #[]) ∧ ∃ v', Wrote base g v v' l (fldB f) w w' := by
 have hfb : fldB f = bBuf f.p.data.toList ++ bBuf f.l ++ (bInt f.L.length ++ pAclsB f.L) ++ bInt f.fl := by
  unfold fldB
  rw [ht]
  clear ht
  simp only [zH, zI, or_false] at htt
  rcases htt with rfl | rfl | rfl <;> rfl
 rw [hfb] at hsz ⊢
 clear hfb
 have HS0 := PutSt.mk' (f.row d a k0 k1 k2 k3 k4 i s).toArray hw hg hb0 hv hbase
 obtain ⟨w1, hw1⟩ := xa w (f.row d a k0 k1 k2 k3 k4 i s).toArray 29
 rw [hw1] at HS0
 have HS := Hi HS0
 have HF := Hi h
 have HP0 : Hid (Wrote base g v v l [] w1 w1) := Wrote.start HS0.wr
 have d0 := HS0.cell HP0.out 0 (u := .int .i32 t) (by rw [← ht]; rfl)
 have d1 := HS0.cell HP0.out 1 (u := .string f.p) rfl
 have hla := h.a.len
 have hli := h.i.len
 simp only [zG, bBuf_len, bInt_len, bLong_len, bBool, zJ, zK, ← bsize_eq] at hsz
 obtain ⟨cs, hcs⟩ : ∃ cs : Array Value, cs = (f.row d a k0 k1 k2 k3 k4 i s).toArray := ⟨_, rfl⟩
 rw [← hcs] at hw1 ⊢
 clear HS0 h hw hg hb0 hv hbase ht hcs
 obtain ⟨n0, n1, n2, n3, n4, n5, n6, n7, n8, n9, n10, n11, n12, n13, n14, n15, n16, n17, n18, n19, n20, _⟩ := sw_all (cs := [21, 2, 13, 5, 7, 120, 121, 6, 9, 103, 104, 3, 4, 8, 12, 101, 106, 18, (-10), 14, 22]) htt rfl
 have S : ((t == 1) = true) ∨ ((t == 1) = false ∧ (t == 15) = true) ∨ ((t == 1) = false ∧ (t == 15) = false ∧ (t == 19) = true) := by
  simp only [zH, zI, or_false] at htt
  rcases htt with rfl | rfl | rfl <;> decide
 clear htt
 rcases S with s0 | ⟨s0, s1⟩ | ⟨s0, s1, s2⟩
 all_goals
  go_enter Tryd.func24, Tryd.ntmps24
  go_wp2_with (first
   | (go_at_call 43
      refine (wText_any base g v _ f.p _ HP0.out.1 (HS.out.le HP0.out) (by simp only [zG, bBuf_len, bInt_len, bLong_len, bBool, zJ, zK, ← bsize_eq]; omega)).mono ?_
      rintro e w2 ⟨rfl, v1, hp⟩
      have HP1 := Hi (HP0.out.cat zT hp)
      clear hp
      have d2 := HS.out.cell HP1.out 2 (u := .slice d.A d.n d.c) rfl
      clear HP0 d1)
   | (go_at_call 44
      refine (wBuffer_any base g v1 _ f.l d.A d.n d.c w0.heap.size _ HP1.out.1 (HF.out.d.reads.below (HS.out.below HP1.out)) (Nat.le_trans HS.out.base0 (HS.out.le HP1.out)) (HS.out.sep HP1.out HF.out.d.reads) (HS.out.le HP1.out) (by simp only [zG, bBuf_len, bInt_len, bLong_len, bBool, zJ, zK, ← bsize_eq]; omega)).mono ?_
      rintro e w3 ⟨rfl, v2, hp⟩
      have HP2 := Hi (HP1.out.cat zT hp)
      clear hp
      have d3 := HS.out.cell HP2.out 3 (u := .slice a.A a.n a.c) rfl
      clear HP1 d2)
   | (go_at_call 45
      refine (aclPut_any base g v2 _ a.A a.n a.c w0.heap.size f.L _ HP2.out.1 (HF.out.a.reads.below (HS.out.below HP2.out)) HS.out.base0 HS.out.bg (HS.out.le HP2.out) (Nat.le_trans (HF.out.a.bd (by decide)) (by decide)) (by simp only [zG, bBuf_len, bInt_len, bLong_len, bBool, zJ, zK, ← bsize_eq]; omega)).mono ?_
      rintro e w4 ⟨rfl, v3, hp⟩
      have HP3 := Hi (HP2.out.cat zT hp)
      clear hp
      have d4 := HS.out.cell HP3.out 4 (u := .int .i32 f.fl) rfl
      clear HP2 d3)
   | (go_at_call 23
      refine (wInt_any base g v3 _ _ _ HP3.out.1 (HS.out.le HP3.out) (by simp only [zG, bBuf_len, bInt_len, bLong_len, bBool, zJ, zK, ← bsize_eq]; omega)).mono ?_
      rintro e w5 ⟨rfl, v4, hp⟩
      have HP4 := Hi (HP3.out.cat zT hp)
      clear hp
      clear HP3 d4))
  go_end0
  have HPE := HP4.out
  rw [← hla] at HPE
  exact ⟨rfl, v4, HPE.from HS.out.b1⟩
theorem put_g1 {w0 w : World} {lo : Option Nat} (t : Int) (htt : t ∈ ([21] : List Int)) (f : OpF) (d a k0 k1 k2 k3 k4 i s : Sl) (base g : Nat) (v : Value) (l : List UInt8) (ht : f.t = t) (h : FAt w0 lo f d a k0 k1 k2 k3 k4 i) (hw : w0.heap.size ≤ base) (hg : base ≤ g) (hb0 : Below w0.heap.size w0 w) (hv : Wr w base g v l) (hbase : base ≤ w.heap.size) (hsz : l.length + (fldB f).length + 64 ≤ 140737488355328) :
 Calls Tryd.prog 24 #[.pointer (some ⟨g, 0, none⟩), .agg (f.row d a k0 k1 k2 k3 k4 i s).toArray] w fun e w' => e = .returned (.tuple #[]) ∧ ∃ v', Wrote base g v v' l (fldB f) w w' := by
 have hfb : fldB f = bBuf f.p.data.toList ++ bBuf f.l ++ (bInt f.L.length ++ pAclsB f.L) ++ bInt f.fl ++ bLong f.tl := by
  unfold fldB
  rw [ht]
  clear ht
  simp only [zH, zI, or_false] at htt
  rcases htt with rfl <;> rfl
 rw [hfb] at hsz ⊢
 clear hfb
 have HS0 := PutSt.mk' (f.row d a k0 k1 k2 k3 k4 i s).toArray hw hg hb0 hv hbase
 obtain ⟨w1, hw1⟩ := xa w (f.row d a k0 k1 k2 k3 k4 i s).toArray 29
 rw [hw1] at HS0
 have HS := Hi HS0
 have HF := Hi h
 have HP0 : Hid (Wrote base g v v l [] w1 w1) := Wrote.start HS0.wr
 have d0 := HS0.cell HP0.out 0 (u := .int .i32 t) (by rw [← ht]; rfl)
 have d1 := HS0.cell HP0.out 1 (u := .string f.p) rfl
 have hla := h.a.len
 have hli := h.i.len
 simp only [zG, bBuf_len, bInt_len, bLong_len, bBool, zJ, zK, ← bsize_eq] at hsz
 obtain ⟨cs, hcs⟩ : ∃ cs : Array Value, cs = (f.row d a k0 k1 k2 k3 k4 i s).toArray := ⟨_, rfl⟩
 rw [← hcs] at hw1 ⊢
 clear HS0 h hw hg hb0 hv hbase ht hcs
 obtain ⟨n0, n1, n2, n3, n4, n5, n6, n7, n8, n9, n10, n11, n12, n13, n14, n15, n16, n17, n18, n19, n20, n21, n22, _⟩ := sw_all (cs := [1, 15, 19, 2, 13, 5, 7, 120, 121, 6, 9, 103, 104, 3, 4, 8, 12, 101, 106, 18, (-10), 14, 22]) htt rfl
 have S : ((t == 21) = true) := by
  simp only [zH, zI, or_false] at htt
  rcases htt with rfl <;> decide
 clear htt
 go_enter Tryd.func24, Tryd.ntmps24
 go_wp2_with (first
  | (go_at_call 43
     refine (wText_any base g v _ f.p _ HP0.out.1 (HS.out.le HP0.out) (by simp only [zG, bBuf_len, bInt_len, bLong_len, bBool, zJ, zK, ← bsize_eq]; omega)).mono ?_
     rintro e w2 ⟨rfl, v1, hp⟩
     have HP1 := Hi (HP0.out.cat zT hp)
     clear hp
     have d2 := HS.out.cell HP1.out 2 (u := .slice d.A d.n d.c) rfl
     clear HP0 d1)
  | (go_at_call 44
     refine (wBuffer_any base g v1 _ f.l d.A d.n d.c w0.heap.size _ HP1.out.1 (HF.out.d.reads.below (HS.out.below HP1.out)) (Nat.le_trans HS.out.base0 (HS.out.le HP1.out)) (HS.out.sep HP1.out HF.out.d.reads) (HS.out.le HP1.out) (by simp only [zG, bBuf_len, bInt_len, bLong_len, bBool, zJ, zK, ← bsize_eq]; omega)).mono ?_
     rintro e w3 ⟨rfl, v2, hp⟩
     have HP2 := Hi (HP1.out.cat zT hp)
     clear hp
     have d3 := HS.out.cell HP2.out 3 (u := .slice a.A a.n a.c) rfl
     clear HP1 d2)
  | (go_at_call 45
     refine (aclPut_any base g v2 _ a.A a.n a.c w0.heap.size f.L _ HP2.out.1 (HF.out.a.reads.below (HS.out.below HP2.out)) HS.out.base0 HS.out.bg (HS.out.le HP2.out) (Nat.le_trans (HF.out.a.bd (by decide)) (by decide)) (by simp only [zG, bBuf_len, bInt_len, bLong_len, bBool, zJ, zK, ← bsize_eq]; omega)).mono ?_
     rintro e w4 ⟨rfl, v3, hp⟩
     have HP3 := Hi (HP2.out.cat zT hp)
     clear hp
     have d4 := HS.out.cell HP3.out 4 (u := .int .i32 f.fl) rfl
     clear HP2 d3)
  | (go_at_call 23
     refine (wInt_any base g v3 _ _ _ HP3.out.1 (HS.out.le HP3.out) (by simp only [zG, bBuf_len, bInt_len, bLong_len, bBool, zJ, zK, ← bsize_eq]; omega)).mono ?_
     rintro e w5 ⟨rfl, v4, hp⟩
     have HP4 := Hi (HP3.out.cat zT hp)
     clear hp
     have d9 := HS.out.cell HP4.out 9 (u := .int .i64 f.tl) rfl
     clear HP3 d4)
  | (go_at_call 46
     refine (wLong_any base g v4 _ _ _ HP4.out.1 (HS.out.le HP4.out) (by simp only [zG, bBuf_len, bInt_len, bLong_len, bBool, zJ, zK, ← bsize_eq]; omega)).mono ?_
     rintro e w6 ⟨rfl, v5, hp⟩
     have HP5 := Hi (HP4.out.cat zT hp)
     clear hp
     clear HP4 d9))
 go_end0
 have HPE := HP5.out
 rw [← hla] at HPE
 exact ⟨rfl, v5, HPE.from HS.out.b1⟩
theorem put_g2 {w0 w : World} {lo : Option Nat} (t : Int) (htt : t ∈ ([2, 13] : List Int)) (f : OpF) (d a k0 k1 k2 k3 k4 i s : Sl) (base g : Nat) (v : Value) (l : List UInt8) (ht : f.t = t) (h : FAt w0 lo f d a k0 k1 k2 k3 k4 i) (hw : w0.heap.size ≤ base) (hg : base ≤ g) (hb0 : Below w0.heap.size w0 w) (hv : Wr w base g v l) (hbase : base ≤ w.heap.size) (hsz : l.length + (fldB f).length + 64 ≤ 140737488355328) :
 Calls Tryd.prog 24 #[.pointer (some ⟨g, 0, none⟩), .agg (f.row d a k0 k1 k2 k3 k4 i s).toArray] w fun e w' => e = .returned (.tuple #[]) ∧ ∃ v', Wrote base g v v' l (fldB f) w w' := by
 have hfb : fldB f = bBuf f.p.data.toList ++ bInt f.ve := by
  unfold fldB
  rw [ht]
  clear ht
  simp only [zH, zI, or_false] at htt
  rcases htt with rfl | rfl <;> rfl
 rw [hfb] at hsz ⊢
 clear hfb
 have HS0 := PutSt.mk' (f.row d a k0 k1 k2 k3 k4 i s).toArray hw hg hb0 hv hbase
 obtain ⟨w1, hw1⟩ := xa w (f.row d a k0 k1 k2 k3 k4 i s).toArray 29
 rw [hw1] at HS0
 have HS := Hi HS0
 have HF := Hi h
 have HP0 : Hid (Wrote base g v v l [] w1 w1) := Wrote.start HS0.wr
 have d0 := HS0.cell HP0.out 0 (u := .int .i32 t) (by rw [← ht]; rfl)
 have d1 := HS0.cell HP0.out 1 (u := .string f.p) rfl
 have hla := h.a.len
 have hli := h.i.len
 simp only [zG, bBuf_len, bInt_len, bLong_len, bBool, zJ, zK, ← bsize_eq] at hsz
 obtain ⟨cs, hcs⟩ : ∃ cs : Array Value, cs = (f.row d a k0 k1 k2 k3 k4 i s).toArray := ⟨_, rfl⟩
 rw [← hcs] at hw1 ⊢
 clear HS0 h hw hg hb0 hv hbase ht hcs
 obtain ⟨n0, n1, n2, n3, n4, n5, n6, n7, n8, n9, n10, n11, n12, n13, n14, n15, n16, n17, n18, n19, n20, n21, _⟩ := sw_all (cs := [1, 15, 19, 21, 5, 7, 120, 121, 6, 9, 103, 104, 3, 4, 8, 12, 101, 106, 18, (-10), 14, 22]) htt rfl
 have S : ((t == 2) = true) ∨ ((t == 2) = false ∧ (t == 13) = true) := by
  simp only [zH, zI, or_false] at htt
  rcases htt with rfl | rfl <;> decide
 clear htt
 rcases S with s0 | ⟨s0, s1⟩
 all_goals
  go_enter Tryd.func24, Tryd.ntmps24
  go_wp2_with (first
   | (go_at_call 43
      refine (wText_any base g v _ f.p _ HP0.out.1 (HS.out.le HP0.out) (by simp only [zG, bBuf_len, bInt_len, bLong_len, bBool, zJ, zK, ← bsize_eq]; omega)).mono ?_
      rintro e w2 ⟨rfl, v1, hp⟩
      have HP1 := Hi (HP0.out.cat zT hp)
      clear hp
      have d5 := HS.out.cell HP1.out 5 (u := .int .i32 f.ve) rfl
      clear HP0 d1)
   | (go_at_call 23
      refine (wInt_any base g v1 _ _ _ HP1.out.1 (HS.out.le HP1.out) (by simp only [zG, bBuf_len, bInt_len, bLong_len, bBool, zJ, zK, ← bsize_eq]; omega)).mono ?_
      rintro e w3 ⟨rfl, v2, hp⟩
      have HP2 := Hi (HP1.out.cat zT hp)
      clear hp
      clear HP1 d5))
  go_end0
  have HPE := HP2.out
  exact ⟨rfl, v2, HPE.from HS.out.b1⟩
theorem put_g3 {w0 w : World} {lo : Option Nat} (t : Int) (htt : t ∈ ([5] : List Int)) (f : OpF) (d a k0 k1 k2 k3 k4 i s : Sl) (base g : Nat) (v : Value) (l : List UInt8) (ht : f.t = t) (h : FAt w0 lo f d a k0 k1 k2 k3 k4 i) (hw : w0.heap.size ≤ base) (hg : base ≤ g) (hb0 : Below w0.heap.size w0 w) (hv : Wr w base g v l) (hbase : base ≤ w.heap.size) (hsz : l.length + (fldB f).length + 64 ≤ 140737488355328) :
 Calls Tryd.prog 24 #[.pointer (some ⟨g, 0, none⟩), .agg (f.row d a k0 k1 k2 k3 k4 i s).toArray] w fun e w' => e = .returned (.tuple #[]) ∧ ∃ v', Wrote base g v v' l (fldB f) w w' := by
 have hfb : fldB f = bBuf f.p.data.toList ++ bBuf f.l ++ bInt f.ve := by
  unfold fldB
  rw [ht]
  clear ht
  simp only [zH, zI, or_false] at htt
  rcases htt with rfl <;> rfl
 rw [hfb] at hsz ⊢
 clear hfb
 have HS0 := PutSt.mk' (f.row d a k0 k1 k2 k3 k4 i s).toArray hw hg hb0 hv hbase
 obtain ⟨w1, hw1⟩ := xa w (f.row d a k0 k1 k2 k3 k4 i s).toArray 29
 rw [hw1] at HS0
 have HS := Hi HS0
 have HF := Hi h
 have HP0 : Hid (Wrote base g v v l [] w1 w1) := Wrote.start HS0.wr
 have d0 := HS0.cell HP0.out 0 (u := .int .i32 t) (by rw [← ht]; rfl)
 have d1 := HS0.cell HP0.out 1 (u := .string f.p) rfl
 have hla := h.a.len
 have hli := h.i.len
 simp only [zG, bBuf_len, bInt_len, bLong_len, bBool, zJ, zK, ← bsize_eq] at hsz
 obtain ⟨cs, hcs⟩ : ∃ cs : Array Value, cs = (f.row d a k0 k1 k2 k3 k4 i s).toArray := ⟨_, rfl⟩
 rw [← hcs] at hw1 ⊢
 clear HS0 h hw hg hb0 hv hbase ht hcs
 obtain ⟨n0, n1, n2, n3, n4, n5, n6, n7, n8, n9, n10, n11, n12, n13, n14, n15, n16, n17, n18, n19, n20, n21, n22, _⟩ := sw_all (cs := [1, 15, 19, 21, 2, 13, 7, 120, 121, 6, 9, 103, 104, 3, 4, 8, 12, 101, 106, 18, (-10), 14, 22]) htt rfl
 have S : ((t == 5) = true) := by
  simp only [zH, zI, or_false] at htt
  rcases htt with rfl <;> decide
 clear htt
 go_enter Tryd.func24, Tryd.ntmps24
 go_wp2_with (first
  | (go_at_call 43
     refine (wText_any base g v _ f.p _ HP0.out.1 (HS.out.le HP0.out) (by simp only [zG, bBuf_len, bInt_len, bLong_len, bBool, zJ, zK, ← bsize_eq]; omega)).mono ?_
     rintro e w2 ⟨rfl, v1, hp⟩
     have HP1 := Hi (HP0.out.cat zT hp)
     clear hp
     have d2 := HS.out.cell HP1.out 2 (u := .slice d.A d.n d.c) rfl
     clear HP0 d1)
  | (go_at_call 44
     refine (wBuffer_any base g v1 _ f.l d.A d.n d.c w0.heap.size _ HP1.out.1 (HF.out.d.reads.below (HS.out.below HP1.out)) (Nat.le_trans HS.out.base0 (HS.out.le HP1.out)) (HS.out.sep HP1.out HF.out.d.reads) (HS.out.le HP1.out) (by simp only [zG, bBuf_len, bInt_len, bLong_len, bBool, zJ, zK, ← bsize_eq]; omega)).mono ?_
     rintro e w3 ⟨rfl, v2, hp⟩
     have HP2 := Hi (HP1.out.cat zT hp)
     clear hp
     have d5 := HS.out.cell HP2.out 5 (u := .int .i32 f.ve) rfl
     clear HP1 d2)
  | (go_at_call 23
     refine (wInt_any base g v2 _ _ _ HP2.out.1 (HS.out.le HP2.out) (by simp only [zG, bBuf_len, bInt_len, bLong_len, bBool, zJ, zK, ← bsize_eq]; omega)).mono ?_
     rintro e w4 ⟨rfl, v3, hp⟩
     have HP3 := Hi (HP2.out.cat zT hp)
     clear hp
     clear HP2 d5))
 go_end0
 have HPE := HP3.out
 exact ⟨rfl, v3, HPE.from HS.out.b1⟩
theorem put_g4 {w0 w : World} {lo : Option Nat} (t : Int) (htt : t ∈ ([7] : List Int)) (f : OpF) (d a k0 k1 k2 k3 k4 i s : Sl) (base g : Nat) (v : Value) (l : List UInt8) (ht : f.t = t) (h : FAt w0 lo f d a k0 k1 k2 k3 k4 i) (hw : w0.heap.size ≤ base) (hg : base ≤ g) (hb0 : Below w0.heap.size w0 w) (hv : Wr w base g v l) (hbase : base ≤ w.heap.size) (hsz : l.length + (fldB f).length + 64 ≤ 140737488355328) :
 Calls Tryd.prog 24 #[.pointer (some ⟨g, 0, none⟩), .agg (f.row d a k0 k1 k2 k3 k4 i s).toArray] w fun e w' => e = .returned (.tuple #[]) ∧ ∃ v', Wrote base g v v' l (fldB f) w w' := by
 have hfb : fldB f = bBuf f.p.data.toList ++ (bInt f.L.length ++ pAclsB f.L) ++ bInt f.ve := by
  unfold fldB
  rw [ht]
  clear ht
  simp only [zH, zI, or_false] at htt
  rcases htt with rfl <;> rfl
 rw [hfb] at hsz ⊢
 clear hfb
 have HS0 := PutSt.mk' (f.row d a k0 k1 k2 k3 k4 i s).toArray hw hg hb0 hv hbase
 obtain ⟨w1, hw1⟩ := xa w (f.row d a k0 k1 k2 k3 k4 i s).toArray 29
 rw [hw1] at HS0
 have HS := Hi HS0
 have HF := Hi h
 have HP0 : Hid (Wrote base g v v l [] w1 w1) := Wrote.start HS0.wr
 have d0 := HS0.cell HP0.out 0 (u := .int .i32 t) (by rw [← ht]; rfl)
 have d1 := HS0.cell HP0.out 1 (u := .string f.p) rfl
 have hla := h.a.len
 have hli := h.i.len
 simp only [zG, bBuf_len, bInt_len, bLong_len, bBool, zJ, zK, ← bsize_eq] at hsz
 obtain ⟨cs, hcs⟩ : ∃ cs : Array Value, cs = (f.row d a k0 k1 k2 k3 k4 i s).toArray := ⟨_, rfl⟩
 rw [← hcs] at hw1 ⊢
 clear HS0 h hw hg hb0 hv hbase ht hcs
 obtain ⟨n0, n1, n2, n3, n4, n5, n6, n7, n8, n9, n10, n11, n12, n13, n14, n15, n16, n17, n18, n19, n20, n21, n22, _⟩ := sw_all (cs := [1, 15, 19, 21, 2, 13, 5, 120, 121, 6, 9, 103, 104, 3, 4, 8, 12, 101, 106, 18, (-10), 14, 22]) htt rfl
 have S : ((t == 7) = true) := by
  simp only [zH, zI, or_false] at htt
  rcases htt with rfl <;> decide
 clear htt
 go_enter Tryd.func24, Tryd.ntmps24
 go_wp2_with (first
  | (go_at_call 43
     refine (wText_any base g v _ f.p _ HP0.out.1 (HS.out.le HP0.out) (by simp only [zG, bBuf_len, bInt_len, bLong_len, bBool, zJ, zK, ← bsize_eq]; omega)).mono ?_
     rintro e w2 ⟨rfl, v1, hp⟩
     have HP1 := Hi (HP0.out.cat zT hp)
     clear hp
     have d3 := HS.out.cell HP1.out 3 (u := .slice a.A a.n a.c) rfl
     clear HP0 d1)
  | (go_at_call 45
     refine (aclPut_any base g v1 _ a.A a.n a.c w0.heap.size f.L _ HP1.out.1 (HF.out.a.reads.below (HS.out.below HP1.out)) HS.out.base0 HS.out.bg (HS.out.le HP1.out) (Nat.le_trans (HF.out.a.bd (by decide)) (by decide)) (by simp only [zG, bBuf_len, bInt_len, bLong_len, bBool, zJ, zK, ← bsize_eq]; omega)).mono ?_
     rintro e w3 ⟨rfl, v2, hp⟩
     have HP2 := Hi (HP1.out.cat zT hp)
     clear hp
     have d5 := HS.out.cell HP2.out 5 (u := .int .i32 f.ve) rfl
     clear HP1 d3)
  | (go_at_call 23
     refine (wInt_any base g v2 _ _ _ HP2.out.1 (HS.out.le HP2.out) (by simp only [zG, bBuf_len, bInt_len, bLong_len, bBool, zJ, zK, ← bsize_eq]; omega)).mono ?_
     rintro e w4 ⟨rfl, v3, hp⟩
     have HP3 := Hi (HP2.out.cat zT hp)
     clear hp
     clear HP2 d5))
 go_end0
 have HPE := HP3.out
 rw [← hla] at HPE
 exact ⟨rfl, v3, HPE.from HS.out.b1⟩
theorem put_g5 {w0 w : World} {lo : Option Nat} (t : Int) (htt : t ∈ ([120] : List Int)) (f : OpF) (d a k0 k1 k2 k3 k4 i s : Sl) (base g : Nat) (v : Value) (l : List UInt8) (ht : f.t = t) (h : FAt w0 lo f d a k0 k1 k2 k3 k4 i) (hw : w0.heap.size ≤ base) (hg : base ≤ g) (hb0 : Below w0.heap.size w0 w) (hv : Wr w base g v l) (hbase : base ≤ w.heap.size) (hsz : l.length + (fldB f).length + 64 ≤ 140737488355328) :
 Calls Tryd.prog 24 #[.pointer (some ⟨g, 0, none⟩), .agg (f.row d a k0 k1 k2 k3 k4 i s).toArray] w fun e w' => e = .returned (.tuple #[]) ∧ ∃ v', Wrote base g v v' l (fldB f) w w' := by
 have hfb : fldB f = bBuf f.p.data.toList ++ bLong f.ct ++ bLong f.by_ := by
  unfold fldB
  rw [ht]
  clear ht
  simp only [zH, zI, or_false] at htt
  rcases htt with rfl <;> rfl
 rw [hfb] at hsz ⊢
 clear hfb
 have HS0 := PutSt.mk' (f.row d a k0 k1 k2 k3 k4 i s).toArray hw hg hb0 hv hbase
 obtain ⟨w1, hw1⟩ := xa w (f.row d a k0 k1 k2 k3 k4 i s).toArray 29
 rw [hw1] at HS0
 have HS := Hi HS0
 have HF := Hi h
 have HP0 : Hid (Wrote base g v v l [] w1 w1) := Wrote.start HS0.wr
 have d0 := HS0.cell HP0.out 0 (u := .int .i32 t) (by rw [← ht]; rfl)
 have d1 := HS0.cell HP0.out 1 (u := .string f.p) rfl
 have hla := h.a.len
 have hli := h.i.len
 simp only [zG, bBuf_len, bInt_len, bLong_len, bBool, zJ, zK, ← bsize_eq] at hsz
 obtain ⟨cs, hcs⟩ : ∃ cs : Array Value, cs = (f.row d a k0 k1 k2 k3 k4 i s).toArray := ⟨_, rfl⟩
 rw [← hcs] at hw1 ⊢
 clear HS0 h hw hg hb0 hv hbase ht hcs
 obtain ⟨n0, n1, n2, n3, n4, n5, n6, n7, n8, n9, n10, n11, n12, n13, n14, n15, n16, n17, n18, n19, n20, n21, n22, _⟩ := sw_all (cs := [1, 15, 19, 21, 2, 13, 5, 7, 121, 6, 9, 103, 104, 3, 4, 8, 12, 101, 106, 18, (-10), 14, 22]) htt rfl
 have S : ((t == 120) = true) := by
  simp only [zH, zI, or_false] at htt
  rcases htt with rfl <;> decide
 clear htt
 go_enter Tryd.func24, Tryd.ntmps24
 go_wp2_with (first
  | (go_at_call 43
     refine (wText_any base g v _ f.p _ HP0.out.1 (HS.out.le HP0.out) (by simp only [zG, bBuf_len, bInt_len, bLong_len, bBool, zJ, zK, ← bsize_eq]; omega)).mono ?_
     rintro e w2 ⟨rfl, v1, hp⟩
     have HP1 := Hi (HP0.out.cat zT hp)
     clear hp
     have d7 := HS.out.cell HP1.out 7 (u := .int .i64 f.ct) rfl
     clear HP0 d1)
  | (go_at_call 46
     refine (wLong_any base g v1 _ _ _ HP1.out.1 (HS.out.le HP1.out) (by simp only [zG, bBuf_len, bInt_len, bLong_len, bBool, zJ, zK, ← bsize_eq]; omega)).mono ?_
     rintro e w3 ⟨rfl, v2, hp⟩
     have HP2 := Hi (HP1.out.cat zT hp)
     clear hp
     have d8 := HS.out.cell HP2.out 8 (u := .int .i64 f.by_) rfl
     clear HP1 d7)
  | (go_at_call 46
     refine (wLong_any base g v2 _ _ _ HP2.out.1 (HS.out.le HP2.out) (by simp only [zG, bBuf_len, bInt_len, bLong_len, bBool, zJ, zK, ← bsize_eq]; omega)).mono ?_
     rintro e w4 ⟨rfl, v3, hp⟩
     have HP3 := Hi (HP2.out.cat zT hp)
     clear hp
     clear HP2 d8))
 go_end0
 have HPE := HP3.out
 exact ⟨rfl, v3, HPE.from HS.out.b1⟩
theorem put_g6 {w0 w : World} {lo : Option Nat} (t : Int) (htt : t ∈ ([121, 6, 9, 103, 104] : List Int)) (f : OpF) (d a k0 k1 k2 k3 k4 i s : Sl) (base g : Nat) (v : Value) (l : List UInt8) (ht : f.t = t) (h : FAt w0 lo f d a k0 k1 k2 k3 k4 i) (hw : w0.heap.size ≤ base) (hg : base ≤ g) (hb0 : Below w0.heap.size w0 w) (hv : Wr w base g v l) (hbase : base ≤ w.heap.size) (hsz : l.length + (fldB f).length + 64 ≤ 140737488355328) :
 Calls Tryd.prog 24 #[.pointer (some ⟨g, 0, none⟩), .agg (f.row d a k0 k1 k2 k3 k4 i s).toArray] w fun e w' => e = .returned (.tuple #[]) ∧ ∃ v', Wrote base g v v' l (fldB f) w w' := by
 have hfb : fldB f = bBuf f.p.data.toList := by
  unfold fldB
  rw [ht]
  clear ht
  simp only [zH, zI, or_false] at htt
  rcases htt with rfl | rfl | rfl | rfl | rfl <;> rfl
 rw [hfb] at hsz ⊢
 clear hfb
 have HS0 := PutSt.mk' (f.row d a k0 k1 k2 k3 k4 i s).toArray hw hg hb0 hv hbase
 obtain ⟨w1, hw1⟩ := xa w (f.row d a k0 k1 k2 k3 k4 i s).toArray 29
 rw [hw1] at HS0
 have HS := Hi HS0
 have HF := Hi h
 have HP0 : Hid (Wrote base g v v l [] w1 w1) := Wrote.start HS0.wr
 have d0 := HS0.cell HP0.out 0 (u := .int .i32 t) (by rw [← ht]; rfl)
 have d1 := HS0.cell HP0.out 1 (u := .string f.p) rfl
 have hla := h.a.len
 have hli := h.i.len
 simp only [zG, bBuf_len, bInt_len, bLong_len, bBool, zJ, zK, ← bsize_eq] at hsz
 obtain ⟨cs, hcs⟩ : ∃ cs : Array Value, cs = (f.row d a k0 k1 k2 k3 k4 i s).toArray := ⟨_, rfl⟩
 rw [← hcs] at hw1 ⊢
 clear HS0 h hw hg hb0 hv hbase ht hcs
 obtain ⟨n0, n1, n2, n3, n4, n5, n6, n7, n8, n9, n10, n11, n12, n13, n14, n15, n16, n17, n18, _⟩ := sw_all (cs := [1, 15, 19, 21, 2, 13, 5, 7, 120, 3, 4, 8, 12, 101, 106, 18, (-10), 14, 22]) htt rfl
 have S : ((t == 121) = true) ∨ ((t == 121) = false ∧ (t == 6) = true) ∨ ((t == 121) = false ∧ (t == 6) = false ∧ (t == 9) = true) ∨ ((t == 121) = false ∧ (t == 6) = false ∧ (t == 9) = false ∧ (t == 103) = true) ∨ ((t == 121) = false ∧ (t == 6) = false ∧ (t == 9) = false ∧ (t == 103) = false ∧ (t == 104) = true) := by
  simp only [zH, zI, or_false] at htt
  rcases htt with rfl | rfl | rfl | rfl | rfl <;> decide
 clear htt
 rcases S with s0 | ⟨s0, s1⟩ | ⟨s0, s1, s2⟩ | ⟨s0, s1, s2, s3⟩ | ⟨s0, s1, s2, s3, s4⟩
 all_goals
  go_enter Tryd.func24, Tryd.ntmps24
  go_wp2_with (first
   | (go_at_call 43
      refine (wText_any base g v _ f.p _ HP0.out.1 (HS.out.le HP0.out) (by simp only [zG, bBuf_len, bInt_len, bLong_len, bBool, zJ, zK, ← bsize_eq]; omega)).mono ?_
      rintro e w2 ⟨rfl, v1, hp⟩
      have HP1 := Hi (HP0.out.cat zT hp)
      clear hp
      clear HP0 d1))
  go_end0
  have HPE := HP1.out
  exact ⟨rfl, v1, HPE.from HS.out.b1⟩
theorem put_g7 {w0 w : World} {lo : Option Nat} (t : Int) (htt : t ∈ ([3, 4, 8, 12] : List Int)) (f : OpF) (d a k0 k1 k2 k3 k4 i s : Sl) (base g : Nat) (v : Value) (l : List UInt8) (ht : f.t = t) (h : FAt w0 lo f d a k0 k1 k2 k3 k4 i) (hw : w0.heap.size ≤ base) (hg : base ≤ g) (hb0 : Below w0.heap.size w0 w) (hv : Wr w base g v l) (hbase : base ≤ w.heap.size) (hsz : l.length + (fldB f).length + 64 ≤ 140737488355328) :
 Calls Tryd.prog 24 #[.pointer (some ⟨g, 0, none⟩), .agg (f.row d a k0 k1 k2 k3 k4 i s).toArray] w fun e w' => e = .returned (.tuple #[]) ∧ ∃ v', Wrote base g v v' l (fldB f) w w' := by
 have hfb : fldB f = bBuf f.p.data.toList ++ bBool f.wa := by
  unfold fldB
  rw [ht]
  clear ht
  simp only [zH, zI, or_false] at htt
  rcases htt with rfl | rfl | rfl | rfl <;> rfl
 rw [hfb] at hsz ⊢
 clear hfb
 have HS0 := PutSt.mk' (f.row d a k0 k1 k2 k3 k4 i s).toArray hw hg hb0 hv hbase
 obtain ⟨w1, hw1⟩ := xa w (f.row d a k0 k1 k2 k3 k4 i s).toArray 29
 rw [hw1] at HS0
 have HS := Hi HS0
 have HF := Hi h
 have HP0 : Hid (Wrote base g v v l [] w1 w1) := Wrote.start HS0.wr
 have d0 := HS0.cell HP0.out 0 (u := .int .i32 t) (by rw [← ht]; rfl)
 have d1 := HS0.cell HP0.out 1 (u := .string f.p) rfl
 have hla := h.a.len
 have hli := h.i.len
 simp only [zG, bBuf_len, bInt_len, bLong_len, bBool, zJ, zK, ← bsize_eq] at hsz
 obtain ⟨cs, hcs⟩ : ∃ cs : Array Value, cs = (f.row d a k0 k1 k2 k3 k4 i s).toArray := ⟨_, rfl⟩
 rw [← hcs] at hw1 ⊢
 clear HS0 h hw hg hb0 hv hbase ht hcs
 obtain ⟨n0, n1, n2, n3, n4, n5, n6, n7, n8, n9, n10, n11, n12, n13, n14, n15, n16, n17, n18, n19, _⟩ := sw_all (cs := [1, 15, 19, 21, 2, 13, 5, 7, 120, 121, 6, 9, 103, 104, 101, 106, 18, (-10), 14, 22]) htt rfl
 have S : ((t == 3) = true) ∨ ((t == 3) = false ∧ (t == 4) = true) ∨ ((t == 3) = false ∧ (t == 4) = false ∧ (t == 8) = true) ∨ ((t == 3) = false ∧ (t == 4) = false ∧ (t == 8) = false ∧ (t == 12) = true) := by
  simp only [zH, zI, or_false] at htt
  rcases htt with rfl | rfl | rfl | rfl <;> decide
 clear htt
 rcases S with s0 | ⟨s0, s1⟩ | ⟨s0, s1, s2⟩ | ⟨s0, s1, s2, s3⟩
 all_goals
  go_enter Tryd.func24, Tryd.ntmps24
  go_wp2_with (first
   | (go_at_call 43
      refine (wText_any base g v _ f.p _ HP0.out.1 (HS.out.le HP0.out) (by simp only [zG, bBuf_len, bInt_len, bLong_len, bBool, zJ, zK, ← bsize_eq]; omega)).mono ?_
      rintro e w2 ⟨rfl, v1, hp⟩
      have HP1 := Hi (HP0.out.cat zT hp)
      clear hp
      have d6 := HS.out.cell HP1.out 6 (u := .bool f.wa) rfl
      clear HP0 d1)
   | (go_at_call 47
      refine (wBool_any base g v1 _ _ _ HP1.out.1 (HS.out.le HP1.out) (by simp only [zG, bBuf_len, bInt_len, bLong_len, bBool, zJ, zK, ← bsize_eq]; omega)).mono ?_
      rintro e w3 ⟨rfl, v2, hp⟩
      have HP2 := Hi (HP1.out.cat zT hp)
      clear hp
      clear HP1 d6))
  go_end0
  have HPE := HP2.out
  exact ⟨rfl, v2, HPE.from HS.out.b1⟩
theorem put_g8 {w0 w : World} {lo : Option Nat} (t : Int) (htt : t ∈ ([106, 18] : List Int)) (f : OpF) (d a k0 k1 k2 k3 k4 i s : Sl) (base g : Nat) (v : Value) (l : List UInt8) (ht : f.t = t) (h : FAt w0 lo f d a k0 k1 k2 k3 k4 i) (hw : w0.heap.size ≤ base) (hg : base ≤ g) (hb0 : Below w0.heap.size w0 w) (hv : Wr w base g v l) (hbase : base ≤ w.heap.size) (hsz : l.length + (fldB f).length + 64 ≤ 140737488355328) :
 Calls Tryd.prog 24 #[.pointer (some ⟨g, 0, none⟩), .agg (f.row d a k0 k1 k2 k3 k4 i s).toArray] w fun e w' => e = .returned (.tuple #[]) ∧ ∃ v', Wrote base g v v' l (fldB f) w w' := by
 have hfb : fldB f = bBuf f.p.data.toList ++ bInt f.fl := by
  unfold fldB
  rw [ht]
  clear ht
  simp only [zH, zI, or_false] at htt
  rcases htt with rfl | rfl <;> rfl
 rw [hfb] at hsz ⊢
 clear hfb
 have HS0 := PutSt.mk' (f.row d a k0 k1 k2 k3 k4 i s).toArray hw hg hb0 hv hbase
 obtain ⟨w1, hw1⟩ := xa w (f.row d a k0 k1 k2 k3 k4 i s).toArray 29
 rw [hw1] at HS0
 have HS := Hi HS0
 have HF := Hi h
 have HP0 : Hid (Wrote base g v v l [] w1 w1) := Wrote.start HS0.wr
 have d0 := HS0.cell HP0.out 0 (u := .int .i32 t) (by rw [← ht]; rfl)
 have d1 := HS0.cell HP0.out 1 (u := .string f.p) rfl
 have hla := h.a.len
 have hli := h.i.len
 simp only [zG, bBuf_len, bInt_len, bLong_len, bBool, zJ, zK, ← bsize_eq] at hsz
 obtain ⟨cs, hcs⟩ : ∃ cs : Array Value, cs = (f.row d a k0 k1 k2 k3 k4 i s).toArray := ⟨_, rfl⟩
 rw [← hcs] at hw1 ⊢
 clear HS0 h hw hg hb0 hv hbase ht hcs
 obtain ⟨n0, n1, n2, n3, n4, n5, n6, n7, n8, n9, n10, n11, n12, n13, n14, n15, n16, n17, n18, n19, n20, n21, _⟩ := sw_all (cs := [1, 15, 19, 21, 2, 13, 5, 7, 120, 121, 6, 9, 103, 104, 3, 4, 8, 12, 101, (-10), 14, 22]) htt rfl
 have S : ((t == 106) = true) ∨ ((t == 106) = false ∧ (t == 18) = true) := by
  simp only [zH, zI, or_false] at htt
  rcases htt with rfl | rfl <;> decide
 clear htt
 rcases S with s0 | ⟨s0, s1⟩
 all_goals
  go_enter Tryd.func24, Tryd.ntmps24
  go_wp2_with (first
   | (go_at_call 43
      refine (wText_any base g v _ f.p _ HP0.out.1 (HS.out.le HP0.out) (by simp only [zG, bBuf_len, bInt_len, bLong_len, bBool, zJ, zK, ← bsize_eq]; omega)).mono ?_
      rintro e w2 ⟨rfl, v1, hp⟩
      have HP1 := Hi (HP0.out.cat zT hp)
      clear hp
      have d4 := HS.out.cell HP1.out 4 (u := .int .i32 f.fl) rfl
      clear HP0 d1)
   | (go_at_call 23
      refine (wInt_any base g v1 _ _ _ HP1.out.1 (HS.out.le HP1.out) (by simp only [zG, bBuf_len, bInt_len, bLong_len, bBool, zJ, zK, ← bsize_eq]; omega)).mono ?_
      rintro e w3 ⟨rfl, v2, hp⟩
      have HP2 := Hi (HP1.out.cat zT hp)
      clear hp
      clear HP1 d4))
  go_end0
  have HPE := HP2.out
  exact ⟨rfl, v2, HPE.from HS.out.b1⟩
theorem put_g9 {w0 w : World} {lo : Option Nat} (t : Int) (htt : t ∈ ([(-10)] : List Int)) (f : OpF) (d a k0 k1 k2 k3 k4 i s : Sl) (base g : Nat) (v : Value) (l : List UInt8) (ht : f.t = t) (h : FAt w0 lo f d a k0 k1 k2 k3 k4 i) (hw : w0.heap.size ≤ base) (hg : base ≤ g) (hb0 : Below w0.heap.size w0 w) (hv : Wr w base g v l) (hbase : base ≤ w.heap.size) (hsz : l.length + (fldB f).length + 64 ≤ 140737488355328) :
 Calls Tryd.prog 24 #[.pointer (some ⟨g, 0, none⟩), .agg (f.row d a k0 k1 k2 k3 k4 i s).toArray] w fun e w' => e = .returned (.tuple #[]) ∧ ∃ v', Wrote base g v v' l (fldB f) w w' := by
 have hfb : fldB f = bInt f.to ++ (bInt f.I.length ++ pIdsB f.I) := by
  unfold fldB
  rw [ht]
  clear ht
  simp only [zH, zI, or_false] at htt
  rcases htt with rfl <;> rfl
 rw [hfb] at hsz ⊢
 clear hfb
 have HS0 := PutSt.mk' (f.row d a k0 k1 k2 k3 k4 i s).toArray hw hg hb0 hv hbase
 obtain ⟨w1, hw1⟩ := xa w (f.row d a k0 k1 k2 k3 k4 i s).toArray 29
 rw [hw1] at HS0
 have HS := Hi HS0
 have HF := Hi h
 have HP0 : Hid (Wrote base g v v l [] w1 w1) := Wrote.start HS0.wr
 have d0 := HS0.cell HP0.out 0 (u := .int .i32 t) (by rw [← ht]; rfl)
 have d16 := HS0.cell HP0.out 16 (u := .int .i32 f.to) rfl
 have hla := h.a.len
 have hli := h.i.len
 simp only [zG, bBuf_len, bInt_len, bLong_len, bBool, zJ, zK, ← bsize_eq] at hsz
 obtain ⟨cs, hcs⟩ : ∃ cs : Array Value, cs = (f.row d a k0 k1 k2 k3 k4 i s).toArray := ⟨_, rfl⟩
 rw [← hcs] at hw1 ⊢
 clear HS0 h hw hg hb0 hv hbase ht hcs
 obtain ⟨n0, n1, n2, n3, n4, n5, n6, n7, n8, n9, n10, n11, n12, n13, n14, n15, n16, n17, n18, n19, n20, n21, n22, _⟩ := sw_all (cs := [1, 15, 19, 21, 2, 13, 5, 7, 120, 121, 6, 9, 103, 104, 3, 4, 8, 12, 101, 106, 18, 14, 22]) htt rfl
 have S : ((t == (-10)) = true) := by
  simp only [zH, zI, or_false] at htt
  rcases htt with rfl <;> decide
 clear htt
 go_enter Tryd.func24, Tryd.ntmps24
 go_wp2_with (first
  | (go_at_call 23
     refine (wInt_any base g v _ _ _ HP0.out.1 (HS.out.le HP0.out) (by simp only [zG, bBuf_len, bInt_len, bLong_len, bBool, zJ, zK, ← bsize_eq]; omega)).mono ?_
     rintro e w2 ⟨rfl, v1, hp⟩
     have HP1 := Hi (HP0.out.cat zT hp)
     clear hp
     have d17 := HS.out.cell HP1.out 17 (u := .slice i.A i.n i.c) rfl
     clear HP0 d16)
  | (go_at_call 49
     refine (aclPutIds_any base g v1 _ i.A i.n i.c w0.heap.size f.I _ HP1.out.1 (HF.out.i.reads.below (HS.out.below HP1.out)) HS.out.base0 HS.out.bg (HS.out.le HP1.out) (Nat.le_trans (HF.out.i.bd (by decide)) (by decide)) (by simp only [zG, bBuf_len, bInt_len, bLong_len, bBool, zJ, zK, ← bsize_eq]; omega)).mono ?_
     rintro e w3 ⟨rfl, v2, hp⟩
     have HP2 := Hi (HP1.out.cat zT hp)
     clear hp
     clear HP1 d17))
 go_end0
 have HPE := HP2.out
 rw [← hli] at HPE
 exact ⟨rfl, v2, HPE.from HS.out.b1⟩
end Go.Proofs.YtpjjnmdfgcfnmaaDoor
