/- Part 14 of a proof: lemmas and walks. -/
import Derived.Test.YtpjjnmdfgcfnmaaGreatDoorK13
import Derived.Test.YtpjjnmdfgcfnmaaGreatDoorK12
import Derived.Test.YtpjjnmdfgcfnmaaGreatDoorK11
set_option linter.unusedVariables false
set_option linter.unusedSimpArgs false
set_option maxRecDepth 100000
set_option maxHeartbeats 16000000
namespace Go.Proofs.YtpjjnmdfgcfnmaaGreatDoor
open Go.RowKit

mutual
def OpC.good : OpC → Prop
 | .mk f S => f.Ok ∧ goodL S
def goodL : List OpC → Prop
 | [] => True
 | x :: r => x.good ∧ goodL r
end
theorem goodL_of : ∀ {S : List OpC}, (∀ x ∈ S, x.good) → goodL S
 | [], _ => by rw [goodL]; trivial
 | x :: r, h => by rw [goodL]; exact ⟨h x (by simp), goodL_of fun y hy => h y (by simp [hy])⟩
theorem At.good {w : World} {lo : Option Nat} {x : OpC} {cs : List Value} (h : At w lo x cs) : x.good := by
 induction h with
 | mk f d a k0 k1 k2 k3 k4 i s Q ok hd ha hk0 hk1 hk2 hk3 hk4 hi hs _ ih =>
   rw [OpC.good]
   refine ⟨ok, goodL_of fun x hx => ?_⟩
   obtain ⟨q, hq, rfl⟩ := List.mem_map.1 hx
   exact ih q hq
theorem kind_14 {t : Int} : kindN t = 2 ↔ t = 14 := by
 constructor
 · intro h
   have htt := kind_types (by rw [h]; decide)
   simp only [ownTypes, zH, zI, or_false] at htt
   rcases htt with rfl | rfl | rfl | rfl | rfl | rfl | rfl | rfl | rfl | rfl | rfl | rfl | rfl | rfl | rfl | rfl | rfl | rfl | rfl | rfl | rfl | rfl | rfl | rfl | rfl | rfl | rfl | rfl <;> first | rfl | exact absurd h (by decide)
 · rintro rfl
   decide
theorem may_kind {t i : Int} (h : mayN t i = true) : kindN t ≠ 0 ∧ kindN t ≠ 5 ∧ t ≠ -1 := by
 unfold mayN at h
 have hm : kindN t ≠ 0 → t ≠ -1 := fun h e => h (by rw [e]; decide)
 split at h
 · simp only [Bool.or_eq_true, beq_iff_eq] at h
   rcases h with (((rfl | rfl) | rfl) | rfl) | rfl <;> decide
 · simp only [Bool.or_eq_true, beq_iff_eq] at h
   rcases h with h | h <;> exact ⟨by rw [h]; decide, by rw [h]; decide, hm (by rw [h]; decide)⟩
theorem may_22 {t : Int} (h : mayN t 22 = true) : t ≠ 14 := by
 rintro rfl
 exact absurd h (by decide)
theorem more_parts {k : Cnt} {t : Int} (h : t ≠ 14) : k.more t = ⟨k.parts + 1, k.multis, k.depth⟩ := by
 unfold Cnt.more
 rw [if_neg (fun e => h (kind_14.1 e))]
theorem more_multis {k : Cnt} : k.more 14 = ⟨k.parts, k.multis + 1, k.depth⟩ := by
 unfold Cnt.more
 rw [if_pos (by decide)]
def OpC.after (x : OpC) (k : Cnt) : Cnt := if x.f.t = 14 then ⟨k.parts + partsL x.S, k.multis + multisL x.S, k.depth⟩ else k
theorem after_more (x : OpC) (k : Cnt) : x.after (k.more x.f.t) = ⟨k.parts + x.parts, k.multis + x.multis, k.depth⟩ := by
 obtain ⟨f, S⟩ := x
 rw [OpC.parts, OpC.multis]
 unfold OpC.after OpC.f OpC.S
 dsimp only
 by_cases h : f.t = 14
 · rw [if_pos h, if_pos h, if_pos h, h, more_multis, Cnt.mk.injEq]
   exact ⟨rfl, by dsimp only; omega, rfl⟩
 · rw [if_neg h, if_neg h, if_neg h, more_parts h]
   rfl
theorem hdr_item {N : Nat} {i t : Int} {k : Cnt} {l : List UInt8} {p : Nat} (hm : mayN t i = true) (hw : (Lit.int .i32 t).wf = true) (ha : Atb l p (hdrB t false)) (hb : (k.more t).big t = false) : gSubs (N + 1) i k l p = itemOf (gSubs N) i t k l (p + 9) := by
 unfold hdrB at ha
 have ht := (may_kind hm).2.2
 have h1 := wb_int hw l p ha.left.left
 have h2 := wb_bool false l _ ha.left.right
 have h3 := wb_int (z := -1) (by decide) l _ ha.right
 have e : p + (bInt t ++ bBool false).length = p + (bInt t).length + (bBool false).length := by rw [zG, Nat.add_assoc]
 rw [e] at h3
 have e9 : p + (bInt t).length + (bBool false).length + (bInt (-1)).length = p + 9 := by rw [bInt_len, bInt_len]; simp [bBool]
 rw [e9] at h3
 show (gInt.bind fun t => if (t != -1 && !mayN t i) = true then gFailR 110 else gBool.bind fun e => if (e != (t == -1)) = true then gFailR 22 else gInt.bind fun z => if (z != -1) = true then gFailR 22
  else if e = true then Rg.ret ([], k) else if (k.more t).big t = true then gFailR 3 else itemOf (gSubs N) i t k) l p = _
 rw [gb_ev h1, if_neg (by rw [hm]; simp), gb_ev h2, if_neg (by simpa using ht), gb_ev h3, if_neg (by decide), if_neg (by decide), hb, if_neg (by decide)]
theorem hdr_end {N : Nat} {i : Int} {k : Cnt} {l : List UInt8} {p : Nat} (ha : Atb l p (hdrB (-1) true)) : gSubs (N + 1) i k l p = .inl (([], k), p + 9) := by
 unfold hdrB at ha
 have h1 := wb_int (z := -1) (by decide) l p ha.left.left
 have h2 := wb_bool true l _ ha.left.right
 have h3 := wb_int (z := -1) (by decide) l _ ha.right
 have e : p + (bInt (-1) ++ bBool true).length = p + (bInt (-1)).length + (bBool true).length := by rw [zG, Nat.add_assoc]
 rw [e] at h3
 have e9 : p + (bInt (-1)).length + (bBool true).length + (bInt (-1)).length = p + 9 := by rw [bInt_len]; simp [bBool]
 rw [e9] at h3
 show (gInt.bind fun t => if (t != -1 && !mayN t i) = true then gFailR 110 else gBool.bind fun e => if (e != (t == -1)) = true then gFailR 22 else gInt.bind fun z => if (z != -1) = true then gFailR 22
  else if e = true then Rg.ret ([], k) else if (k.more t).big t = true then gFailR 3 else itemOf (gSubs N) i t k) l p = _
 rw [gb_ev h1, if_neg (by simp), gb_ev h2, if_neg (by decide), gb_ev h3, if_neg (by decide), if_pos rfl]
 rfl
theorem all_parts {f : OpF} {S : List OpC} (h : (OpC.mk f S).allE = 0) : OwnOk f S.length ∧ allL f.t S = 0 := by
 rw [OpC.allE] at h
 split at h
 · exact absurd h ‹_›
 · exact ⟨own_ok.1 (by simpa using ‹¬ ownE f S.length ≠ 0›), h⟩
theorem allL_cons {i : Int} {x : OpC} {r : List OpC} (h : allL i (x :: r) = 0) : mayN x.f.t i = true ∧ x.allE = 0 ∧ allL i r = 0 := by
 rw [allL] at h
 split at h
 · cases h
 rename_i h1
 split at h
 · exact absurd h ‹_›
 rename_i h2
 exact ⟨by simpa using h1, by simpa using h2, h⟩
theorem many_counts : ∀ {S : List OpC}, allL 22 S = 0 → partsL S = S.length ∧ multisL S = 0 ∧ depthL S = 0
 | [], _ => by rw [partsL, multisL, depthL]; exact ⟨rfl, rfl, rfl⟩
 | .mk f T :: r, h => by
   obtain ⟨h1, _, h3⟩ := allL_cons h
   obtain ⟨a, b, c⟩ := many_counts h3
   have ht : f.t ≠ 14 := may_22 h1
   rw [partsL, multisL, depthL, OpC.parts, OpC.multis, OpC.depth, if_neg ht, if_neg ht, if_neg ht, a, b, c, zM]
   omega
theorem big_not {x : OpC} {k : Cnt} (h1 : k.parts + x.parts ≤ 1024) (h2 : k.multis + x.multis ≤ 1024) (h3 : k.depth + x.depth ≤ 8) : (k.more x.f.t).big x.f.t = false := by
 obtain ⟨f, S⟩ := x
 rw [OpC.parts] at h1
 rw [OpC.multis] at h2
 rw [OpC.depth] at h3
 show (k.more f.t).big f.t = false
 by_cases ht : f.t = 14
 · rw [if_pos ht] at h1 h2 h3
   rw [ht, more_multis]
   unfold Cnt.big
   simp only [Bool.or_eq_false_iff, decide_eq_false_iff_not, Bool.and_eq_false_iff, beq_eq_false_iff_ne]
   exact ⟨⟨by omega, by omega⟩, .inr (by omega)⟩
 · rw [if_neg ht] at h1 h2 h3
   rw [more_parts ht]
   unfold Cnt.big
   simp only [Bool.or_eq_false_iff, decide_eq_false_iff_not, Bool.and_eq_false_iff, beq_eq_false_iff_ne]
   exact ⟨⟨by omega, by omega⟩, .inl (fun e => ht (kind_14.1 e))⟩
mutual
theorem op_back : ∀ (x : OpC) (N : Nat) (k : Cnt) (l : List UInt8) (p : Nat), x.allE = 0 → x.good → kindN x.f.t ≠ 5 → (x.f.t = 14 → k.parts + partsL x.S ≤ 1024 ∧ k.multis + multisL x.S ≤ 1024 ∧ k.depth + 1 + depthL x.S ≤ 8) → Atb l p x.putB → l.length - p < N →
 opWith (gSubs N) x.f.t k l p = .inl ((x, x.after k), p + x.putB.length)
 | .mk f S, N, k, l, p, ha, hg, h5, h14, hb, hN => by
   obtain ⟨hf, hS⟩ := all_parts ha
   rw [OpC.good] at hg
   rw [OpC.putB] at hb ⊢
   unfold OpC.after OpC.f OpC.S at *
   dsimp only at *
   unfold opWith
   rw [if_neg (fun e => e.elim hf.kind h5)]
   have hz : keptF f = f := hf.kept
   by_cases ht : f.t = 14
   · rw [if_pos ht, if_pos ht]
     rw [if_pos (.inl ht)] at hb ⊢
     obtain ⟨c1, c2, c3⟩ := h14 ht
     rw [ht] at hS
     have hs := subs_back S 14 N ⟨k.parts, k.multis, k.depth + 1⟩ l p hS hg.2 c1 c2 c3 hb hN
     have hf14 : f = zF 14 := by
      rw [← hz]
      obtain ⟨t, p, l, L, fl, ve, wa, ct, by_, tl, zx, K0, K1, K2, K3, K4, to_, I⟩ := f
      dsimp only at ht
      subst ht
      rfl
     unfold Rg.map
     rw [hs, ← hf14]
     rfl
   · rw [if_neg ht, if_neg ht]
     by_cases ht2 : f.t = 22
     · rw [if_pos ht2]
       rw [if_pos (.inr ht2)] at hb ⊢
       rw [ht2] at hS
       obtain ⟨c1, c2, c3⟩ := many_counts hS
       have c4 := hf.many ht2
       have hs := subs_back S 22 N ⟨0, 0, 0⟩ l p hS hg.2 (by rw [c1]; dsimp only; omega) (by rw [c2]; exact Nat.zero_le _) (by rw [c3]; exact Nat.zero_le _) hb hN
       have hf22 : f = zF 22 := by
        rw [← hz]
        obtain ⟨t, p, l, L, fl, ve, wa, ct, by_, tl, zx, K0, K1, K2, K3, K4, to_, I⟩ := f
        dsimp only at ht2
        subst ht2
        rfl
       unfold Rg.map
       rw [hs, ← hf22]
     · have hS0 : S = [] := List.eq_nil_of_length_eq_zero (hf.none (by simp only [tS, zH, zI, or_false]; exact fun e => e.elim ht ht2))
       subst hS0
       rw [if_neg ht2]
       rw [if_neg (show ¬ (f.t = 14 ∨ f.t = 22) from fun e => e.elim ht ht2)] at hb ⊢
       by_cases ht3 : f.t = 101
       · rw [if_pos ht3]
         unfold Rg.map
         rw [wat_back hf hg.1 ht3 l p hb]
       · rw [if_neg ht3]
         unfold Rg.map
         rw [fld_back hf hg.1 ht ht2 ht3 h5 l p hb]
theorem subs_back : ∀ (S : List OpC) (i : Int) (N : Nat) (k : Cnt) (l : List UInt8) (p : Nat), allL i S = 0 → goodL S → k.parts + partsL S ≤ 1024 → k.multis + multisL S ≤ 1024 → k.depth + depthL S ≤ 8 → Atb l p (subsB S ++ hdrB (-1) true) → l.length - p < N →
 gSubs N i k l p = .inl ((S, ⟨k.parts + partsL S, k.multis + multisL S, k.depth⟩), p + (subsB S ++ hdrB (-1) true).length)
 | [], i, N, k, l, p, _, _, _, _, _, hb, hN => by
   obtain ⟨N, rfl⟩ : ∃ M, N = M + 1 := ⟨N - 1, by omega⟩
   rw [subsB, List.nil_append] at hb ⊢
   rw [hdr_end hb, partsL, multisL, hdrB_len]
   rfl
 | x :: r, i, N, k, l, p, ha, hg, h1, h2, h3, hb, hN => by
   obtain ⟨N, rfl⟩ : ∃ M, N = M + 1 := ⟨N - 1, by omega⟩
   obtain ⟨a1, a2, a3⟩ := allL_cons ha
   rw [goodL] at hg
   rw [partsL] at h1 ⊢
   rw [multisL] at h2 ⊢
   rw [depthL] at h3
   rw [subsB] at hb ⊢
   rw [zL, zL] at hb
   have hl := hb.left
   have hr := hb.right
   rw [hdrB_len] at hr
   have hpl := hb.1
   rw [zG, hdrB_len] at hpl
   have hwf : (Lit.int .i32 x.f.t).wf = true := by
    obtain ⟨f, S⟩ := x
    have := hg.1
    rw [OpC.good] at this
    exact this.1.t
   have hx14 : x.f.t = 14 → partsL x.S = x.parts ∧ multisL x.S + 1 = x.multis ∧ depthL x.S + 1 = x.depth := by
    obtain ⟨f, S⟩ := x
    intro ht
    have ht : f.t = 14 := ht
    rw [OpC.parts, OpC.multis, OpC.depth, if_pos ht, if_pos ht, if_pos ht]
    exact ⟨rfl, Nat.add_comm _ _, rfl⟩
   rw [hdr_item a1 hwf hl (big_not (by omega) (by omega) (by omega))]
   have hx := op_back x N (k.more x.f.t) l (p + 9) a2 hg.1 (may_kind a1).2.1 (fun ht => by
    obtain ⟨e1, e2, e3⟩ := hx14 ht
    rw [ht, more_multis]
    dsimp only
    omega) hr.left (by omega)
   rw [after_more] at hx
   have hs := subs_back r i N ⟨k.parts + x.parts, k.multis + x.multis, k.depth⟩ l (p + 9 + x.putB.length) a3 hg.2 (by dsimp only; omega) (by dsimp only; omega) (by dsimp only; omega) hr.right (by omega)
   unfold itemOf
   rw [gb_ev hx]
   unfold Rg.map
   dsimp only at hs ⊢
   rw [hs]
   simp only [zG, hdrB_len, Sum.inl.injEq, Prod.mk.injEq, Cnt.mk.injEq, true_and, and_true]
   omega
end
theorem more_ok {k : Cnt} {t : Int} (hk : k.Ok) (h : (k.more t).big t = false) : (k.more t).Ok ∧ (k.more t).depth = k.depth ∧ (t = 14 → k.depth < 8) := by
 unfold Cnt.big at h
 simp only [Bool.or_eq_false_iff, decide_eq_false_iff_not, Bool.and_eq_false_iff, beq_eq_false_iff_ne] at h
 obtain ⟨⟨h1, h2⟩, h3⟩ := h
 have hd := hk.depth
 by_cases ht : t = 14
 · subst ht
   rw [more_multis] at h1 h2 h3 ⊢
   dsimp only at h1 h2 h3 ⊢
   rcases h3 with h3 | h3
   · exact absurd (by decide) h3
   · exact ⟨⟨by dsimp only; omega, by dsimp only; omega, hd⟩, rfl, fun _ => by omega⟩
 · rw [more_parts ht] at h1 h2 ⊢
   dsimp only at h1 h2 ⊢
   exact ⟨⟨by dsimp only; omega, by dsimp only; omega, hd⟩, rfl, fun h => absurd h ht⟩
def SubsFo (N : Nat) : Prop := ∀ (i : Int) (k : Cnt) (l : List UInt8) (p : Nat) (S : List OpC) (k' : Cnt) (q : Nat), gSubs N i k l p = .inl ((S, k'), q) → p ≤ l.length → k.Ok →
 Bk l p q (subsB S ++ hdrB (-1) true) ∧ allL i S = 0 ∧ k' = ⟨k.parts + partsL S, k.multis + multisL S, k.depth⟩ ∧ k'.Ok ∧ k.depth + depthL S ≤ 8
theorem op_forth {N : Nat} (HS : SubsFo N) {t : Int} {k : Cnt} {l : List UInt8} {p : Nat} {x : OpC} {k' : Cnt} {q : Nat} (h : opWith (gSubs N) t k l p = .inl ((x, k'), q)) (hp : p ≤ l.length) (hk : k.Ok) (h14 : t = 14 → k.depth < 8) :
 Bk l p q x.putB ∧ x.f.t = t ∧ x.allE = 0 ∧ k' = x.after k ∧ k'.Ok ∧ k.depth + x.depth ≤ 8 ∧ kindN t ≠ 5 := by
 unfold opWith at h
 split at h
 · cases h
 rename_i hkd
 have h0 : kindN t ≠ 0 := fun e => hkd (.inl e)
 have h5 : kindN t ≠ 5 := fun e => hkd (.inr e)
 have hd8 := hk.depth
 split at h
 · rename_i ht
   subst ht
   obtain ⟨⟨S, k1⟩, hs, he⟩ := map_inl h
   simp only [Prod.mk.injEq] at he
   obtain ⟨rfl, rfl⟩ := he
   obtain ⟨b1, b2, b3, b4, b5⟩ := HS 14 _ l p S k1 q hs hp ⟨hk.parts, hk.multis, h14 rfl⟩
   dsimp only at b3 b5
   subst b3
   refine ⟨?_, rfl, ?_, ?_, ⟨b4.parts, b4.multis, hd8⟩, ?_, by decide⟩
   · rw [OpC.putB, if_pos (show (zF 14).t = 14 ∨ (zF 14).t = 22 from .inl rfl)]
     exact b1
   · rw [OpC.allE, own_ok.2 (⟨by decide, Nat.zero_le _, Nat.zero_le _, Nat.zero_le _, Nat.zero_le _, fun K hK => by
      simp only [OpF.lists, zF, zH, zI, or_false, or_self] at hK
      subst hK
      exact Nat.zero_le _, fun s hs => by simp [OpF.texts, zF] at hs, fun h => absurd h (by decide), fun x hx => by simp [OpF.ids, zF] at hx, empty_valid, rfl, fun h => absurd (by decide) h⟩ : OwnOk (zF 14) S.length), if_neg (by simp)]
     exact b2
   · show _ = if (14 : Int) = 14 then (⟨k.parts + partsL S, k.multis + multisL S, k.depth⟩ : Cnt) else k
     rw [if_pos rfl]
     rfl
   · rw [OpC.depth, if_pos (show (zF 14).t = 14 from rfl)]
     omega
 rename_i ht14
 split at h
 · rename_i ht
   subst ht
   obtain ⟨⟨S, k1⟩, hs, he⟩ := map_inl h
   simp only [Prod.mk.injEq] at he
   obtain ⟨rfl, rfl⟩ := he
   obtain ⟨b1, b2, b3, b4, b5⟩ := HS 22 _ l p S k1 q hs hp ⟨Nat.zero_le _, Nat.zero_le _, Nat.zero_le _⟩
   dsimp only at b3 b5
   have hlen : S.length ≤ 1024 := by
    have := b4.parts
    rw [b3] at this
    have hm := (many_counts b2).1
    dsimp only at this
    omega
   refine ⟨?_, rfl, ?_, ?_, hk, ?_, by decide⟩
   · rw [OpC.putB, if_pos (show (zF 22).t = 14 ∨ (zF 22).t = 22 from .inr rfl)]
     exact b1
   · rw [OpC.allE, own_ok.2 (⟨by decide, Nat.zero_le _, Nat.zero_le _, Nat.zero_le _, Nat.zero_le _, fun K hK => by
      simp only [OpF.lists, zF, zH, zI, or_false, or_self] at hK
      subst hK
      exact Nat.zero_le _, fun s hs => by simp [OpF.texts, zF] at hs, fun _ => hlen, fun x hx => by simp [OpF.ids, zF] at hx, empty_valid, rfl, fun h => absurd (by decide) h⟩ : OwnOk (zF 22) S.length), if_neg (by simp)]
     exact b2
   · show _ = if (22 : Int) = 14 then (⟨k.parts + partsL S, k.multis + multisL S, k.depth⟩ : Cnt) else k
     rw [if_neg (by decide)]
   · rw [OpC.depth, if_neg (show ¬ (zF 22).t = 14 by decide)]
     exact hd8
 rename_i ht22
 have leaf : ∀ (f : OpF), Bk l p q (fldB f) → f.t = t → OwnOk f 0 → x = .mk f [] → k' = k → Bk l p q x.putB ∧ x.f.t = t ∧ x.allE = 0 ∧ k' = x.after k ∧ k'.Ok ∧ k.depth + x.depth ≤ 8 ∧ kindN t ≠ 5 := by
  rintro f a1 a2 a3 rfl rfl
  refine ⟨?_, a2, ?_, ?_, hk, ?_, h5⟩
  · rw [OpC.putB, a2, if_neg (fun e => e.elim ht14 ht22)]
    exact a1
  · rw [OpC.allE, show ([] : List OpC).length = 0 from rfl, own_ok.2 a3, if_neg (by simp), allL]
  · unfold OpC.after
    rw [show (OpC.mk f []).f.t = t from a2, if_neg ht14]
  · rw [OpC.depth, a2, if_neg ht14]
    exact hd8
 split at h
 · obtain ⟨f, hf, he⟩ := map_inl h
   simp only [Prod.mk.injEq] at he
   obtain ⟨a1, a2, a3⟩ := wat_forth hf
   exact leaf f a1 (by rw [a2]; exact (by assumption : t = 101).symm) a3 he.1.symm he.2.symm
 · rename_i ht101
   obtain ⟨f, hf, he⟩ := map_inl h
   simp only [Prod.mk.injEq] at he
   obtain ⟨a1, a2, a3⟩ := fld_forth hf hp h0 h5 ht14 ht22 ht101
   exact leaf f a1 a2 a3 he.1.symm he.2.symm
theorem subs_forth : ∀ N, SubsFo N
 | 0 => fun i k l p S k' q h => by cases h
 | N + 1 => fun i k l p S k' q h hp hk => by
   have HS := subs_forth N
   have h : (gInt.bind fun t => if (t != -1 && !mayN t i) = true then gFailR 110 else gBool.bind fun e => if (e != (t == -1)) = true then gFailR 22 else gInt.bind fun z => if (z != -1) = true then gFailR 22
    else if e = true then Rg.ret ([], k) else if (k.more t).big t = true then gFailR 3 else itemOf (gSubs N) i t k) l p = .inl ((S, k'), q) := h
   obtain ⟨t, q1, h1, ha⟩ := bind_inl h
   clear h
   by_cases hm : (t != -1 && !mayN t i) = true
   · rw [if_pos hm] at ha; cases ha
   rw [if_neg hm] at ha
   obtain ⟨e, q2, h2, hb0⟩ := bind_inl ha
   clear ha
   by_cases he : (e != (t == -1)) = true
   · rw [if_pos he] at hb0; cases hb0
   rw [if_neg he] at hb0
   obtain ⟨z, q3, h3, h⟩ := bind_inl hb0
   clear hb0
   by_cases hz : (z != -1) = true
   · rw [if_pos hz] at h; cases h
   rw [if_neg hz] at h
   have hz : z = -1 := by simpa using hz
   subst hz
   have b1 := int_bk h1
   have b2 := bool_bk' h2
   have b3 := int_bk h3
   have hb : Bk l p q3 (hdrB t e) := (b1.app b2).app b3
   have hd8 := hk.depth
   have he : e = (t == -1) := by simpa using he
   by_cases het : e = true
   · rw [if_pos het] at h
     subst het
     have ht : t = -1 := by simpa using he.symm
     subst ht
     simp only [Rg.ret, Sum.inl.injEq, Prod.mk.injEq] at h
     obtain ⟨⟨rfl, rfl⟩, rfl⟩ := h
     rw [subsB, List.nil_append, allL, partsL, multisL, depthL]
     exact ⟨hb, rfl, rfl, hk, hd8⟩
   rw [if_neg het] at h
   have hef : e = false := by simpa using het
   subst hef
   have ht : t ≠ -1 := by simpa using he.symm
   have hm : mayN t i = true := by simpa [ht] using hm
   by_cases hbig : (k.more t).big t = true
   · rw [if_pos hbig] at h; cases h
   rw [if_neg hbig] at h
   have hbig : (k.more t).big t = false := by simpa using hbig
   obtain ⟨m1, m2, m3⟩ := more_ok hk hbig
   unfold itemOf at h
   obtain ⟨⟨x, k1⟩, q4, h4, hc⟩ := bind_inl h
   obtain ⟨⟨r, k2⟩, h5, he2⟩ := map_inl hc
   clear h hc
   simp only [Prod.mk.injEq] at he2
   obtain ⟨rfl, rfl⟩ := he2
   obtain ⟨c1, c2, c3, c4, c5, c6, _⟩ := op_forth HS h4 hb.2.2 m1 (fun h => by rw [m2]; exact m3 h)
   obtain ⟨d1, d2, d3, d4, d5⟩ := HS i k1 l q4 r k2 q h5 c1.2.2 c5
   subst c2
   rw [after_more] at c4
   subst c4
   dsimp only at d3 d5
   rw [m2] at c6
   refine ⟨?_, ?_, ?_, d4, ?_⟩
   · rw [subsB]
     have := (hb.app c1).app d1
     rw [← zL] at this
     exact this
   · rw [allL, hm, if_neg (by decide), c3, if_neg (by simp)]
     exact d2
   · rw [d3, partsL, multisL, Cnt.mk.injEq]
     exact ⟨Nat.add_assoc _ _ _, Nat.add_assoc _ _ _, rfl⟩
   · rw [depthL]
     omega

structure SSt (w0 : World) (B : Nat → Prop) (R c : Nat) (A : Option Addr) (l : List UInt8) (C q : Nat) (k : Cnt) (v : Value) (Q : List (OpC × List Value)) (w : World) : Prop where
 rdr : Rdr w B R A c l q
 blk : Blk w C 120 k.row
 kp : Kp [R, C] w0 w
 fl : FlatSt w0.heap.size v Q w
 nR : C ≠ R
 nB : ¬ B C
 old : R < w0.heap.size ∧ C < w0.heap.size
section
variable {w0 w w' : World} {B : Nat → Prop} {R c C q q' : Nat} {A : Option Addr} {l : List UInt8} {k k' : Cnt} {v : Value} {Q : List (OpC × List Value)}
theorem SSt.read (h : SSt w0 B R c A l C q k v Q w) (hk : Kp [R] w w') (hR : Rdr w' B R A c l q') : SSt w0 B R c A l C q' k v Q w' :=
 ⟨hR, h.blk.kp hk (by simpa using h.nR), h.kp.to hk (fun _ h _ => h) (fun y hy _ => by simp at hy; simp [hy]), h.fl.kp hk (by have := h.old; simp; omega), h.nR, h.nB, h.old⟩
theorem SSt.draw (h : SSt w0 B R c A l C q k v Q w) (n : Nat) : SSt w0 B R c A l C q k v Q (w.drewN n) :=
 have hk : Kp [] w (w.drewN n) := Kp.drewN n
 ⟨h.rdr.kp hk (by simp) (by simp), h.blk.kp hk (by simp), h.kp.to hk (fun _ h _ => h) (fun y hy _ => by cases hy), h.fl.kp hk (by simp), h.nR, h.nB, h.old⟩
theorem SSt.set_ (h : SSt w0 B R c A l C q k v Q w) (j : Nat) (u : Value) (hr : k.row.setIfInBounds j u = k'.row) : SSt w0 B R c A l C q k' v Q (w.setCell ⟨C, j, none⟩ u) :=
 have hk : Kp [C] w (w.setCell ⟨C, j, none⟩ u) := Kp.setCell ⟨C, j, none⟩ u
 ⟨h.rdr.kp hk (by simpa using h.nR.symm) (by simpa using h.nB), by rw [← hr]; exact h.blk.set_ j u, h.kp.to hk (fun _ h _ => h) (fun y hy _ => by simp at hy; simp [hy]), h.fl.kp hk (by have := h.old; simp; omega), h.nR, h.nB, h.old⟩
theorem SSt.got (h : SSt w0 B R c A l C q k v Q w) (hk : Kp [R, C] w w') (hR : Rdr w' B R A c l q') (hb : Blk w' C 120 k'.row) : SSt w0 B R c A l C q' k' v Q w' :=
 ⟨hR, hb, h.kp.trans hk, h.fl.kp hk (by have := h.old; simp; omega), h.nR, h.nB, h.old⟩
theorem SSt.keep (h : SSt w0 B R c A l C q k v Q w) (hk : Kp [] w w') : SSt w0 B R c A l C q k v Q w' :=
 ⟨h.rdr.kp hk (by simp) (by simp), h.blk.kp hk (by simp), h.kp.to hk (fun _ h _ => h) (fun y hy _ => by cases hy), h.fl.kp hk (by simp), h.nR, h.nB, h.old⟩
theorem SSt.push (h : SSt w0 B R c A l C q k v Q w) {b : Nat} {x : OpC} {cs : List Value} {v' : Value} (hx : Win w b w.heap.size x cs) (hb : w0.heap.size ≤ b) (hv : ∀ g, v.ownBlock = some g → g < b)
 (hown : w'.ownsRow w0.heap.size 29 19 v' (Q.length + 1) (Q.flatMap Prod.snd ++ cs)) (hg : w.grownBy w' v.ownBlock) (hat : v'.ownBlock = v.ownBlock ∨ v'.ownBlock = some w.heap.size) : SSt w0 B R c A l C q k v' (Q ++ [(x, cs)]) w' := by
 have hk := Kp.of_grown hg
 have ho : ∀ y ∈ v.ownBlock.toList, w0.heap.size ≤ y := fun y hy => (h.fl.own.lt y (by simpa using hy)).1
 have hold := h.old
 refine ⟨h.rdr.kp hk (fun hy => by have := ho _ hy; omega) (fun y hy hB => by have := ho _ hy; have := h.rdr.old y hB; omega), h.blk.kp hk (fun hy => by have := ho _ hy; omega), h.kp.to hk (fun _ h _ => h) (fun y hy hl => by have := ho _ hy; omega), ?_, h.nR, h.nB, hold⟩
 exact h.fl.snoc (r := (x, cs)) hx hb hv hown hg hat
end
theorem one_count (x : OpC) : 1 ≤ x.parts + x.multis := by
 obtain ⟨f, S⟩ := x
 rw [OpC.parts, OpC.multis]
 split <;> omega
theorem pre_inr {xs : List OpC} {r : ((List OpC × Cnt) × Nat) ⊕ (Int × Nat)} {e : Int × Nat} (h : r = .inr e) : pre xs r = .inr e := by rw [h]; rfl
def itemR (e : Bool) (t i : Int) (k : Cnt) (S : Int → Cnt → Rg (List OpC × Cnt)) : Rg (List OpC × Cnt) := if e = true then Rg.ret ([], k) else if (k.more t).big t = true then gFailR 3 else itemOf S i t k
def numR (e : Bool) (t i : Int) (k : Cnt) (S : Int → Cnt → Rg (List OpC × Cnt)) : Rg (List OpC × Cnt) := gInt.bind fun z => if (z != -1) = true then gFailR 22 else itemR e t i k S
def markR (t i : Int) (k : Cnt) (S : Int → Cnt → Rg (List OpC × Cnt)) : Rg (List OpC × Cnt) := gBool.bind fun e => if (e != (t == -1)) = true then gFailR 22 else numR e t i k S
def hdrR (t i : Int) (k : Cnt) (S : Int → Cnt → Rg (List OpC × Cnt)) : Rg (List OpC × Cnt) := if (t != -1 && !mayN t i) = true then gFailR 110 else markR t i k S
theorem subs_any (n : Nat) (HG0 : ∀ m, m < n → GetOk m) : SubsOk n := by
 intro B R c p C A l i k w h hC hCR hCB hk hp
 have HGET := Hi HG0
 have HKO := Hi hk
 have HS0 : Hid (SSt w B R c A l C p k (.slice none 0 0) [] w) := ⟨h, hC, Kp.refl _ _, FlatSt.nil w, hCR, hCB, h.lt, hC.lt⟩
 have hll := h.len
 have hpl := h.here
 obtain ⟨i0, hi0, hz0, hzi1, hzi2⟩ := info_parts op_info
 clear h hC hk HG0
 go_enter Tryz.func121, Tryz.ntmps121
 go_wp2
 go_loopw [7] (fun v7 wr => ∃ (m q : Nat) (k1 : Cnt) (A1 : Option Addr) (c1 : Nat) (Q : List (OpC × List Value)), v7 = .slice A1 Q.length c1 ∧ m ≤ n ∧ l.length - q < m ∧ Q.length ≤ k1.parts + k1.multis ∧ Hid (gSubs n i k l p = pre (Q.map Prod.fst) (gSubs m i k1 l q)) ∧ Hid (k1.Ok ∧ k1.depth = k.depth) ∧ Hid (SSt w B R c A l C q k1 (.slice A1 Q.length c1) Q wr)) (fun _ wr => l.length - (intOf ((wr.cell? ⟨R, 1, none⟩).getD undef)).toNat)
 case atStart => exact ⟨n, p, k, none, 0, [], rfl, Nat.le_refl _, hp, Nat.zero_le _, (by unfold Hid; rw [List.map_nil, pre_nil]), ⟨HKO.out, rfl⟩, HS0.out⟩
 case round =>
  clear HS0
  obtain ⟨m, q, k1, A1, c1, Q, rfl, hmn, hqm, hql, HG, HK1, HS⟩ := hrel
  obtain ⟨m', rfl⟩ : ∃ m', m = m' + 1 := ⟨m - 1, by omega⟩
  have hg : gSubs n i k l p = pre (Q.map Prod.fst) ((gInt.bind fun t => hdrR t i k1 (gSubs m')) l q) := HG.out
  have HG1 := Hi hg
  have hk1 := HK1.out.1
  have hkp := hk1.parts
  have hkm := hk1.multis
  have hkd := hk1.depth
  have hq2 : Q.length ≤ 2048 := by omega
  have hnn : (0 : Int) ≤ ((l.length - q : Nat) : Int) := by omega
  clear hg HG hk1
  go_wp2_with (go_at_call 129; refine (left_any B R c q A l _ HS.out.rdr).mono ?_; rintro e w2 ⟨rfl, nn, rfl⟩; have H0 := Hi (HS.out.draw nn); refine Hid.out ?_)
  have HKI : Hid (∀ (t : Int) (W : World), True) := fun _ _ => trivial
  have HMA := HKI
  have ht := rInt_any B R c q A l _ H0.out.rdr
  rcases h1 : gInt l q with ⟨t, q1⟩ | ⟨er, q1⟩
  rotate_left
  · rw [h1] at ht
    have HT := Hi ht
    have HGE := Hi (HG1.out.trans (pre_inr (gb_no h1)))
    clear ht h1
    refine Hi ?_
    go_wp2_with (first
     | (go_at_call 11; refine (HKI.out _).mono ?_; rintro e w3 ⟨rfl, he⟩; obtain rfl := he.symm)
     | (go_at_call 72; refine (HMA.out _).mono ?_; rintro e w3 ⟨rfl, he⟩; obtain rfl := he.symm)
     | (go_at_call 60; refine HT.out.mono ?_; rintro e w3 ⟨rfl, hkp, hR⟩; have HN := Hi (H0.out.read hkp hR); clear hkp hR))
    exact ⟨rfl, RendX.no HGE.out HN.out.kp HN.out.rdr⟩
  rw [h1] at ht
  have hleq1 : q ≤ q1 := (int_bk h1).2.1
  have HT := Hi ht
  have HG2 : Hid (gSubs n i k l p = pre (Q.map Prod.fst) ((hdrR t i k1 (gSubs m')) l q1)) := HG1.out.trans (congrArg (pre (Q.map Prod.fst)) (gb_ev h1))
  have hq4 : q + 4 ≤ l.length ∧ q + 4 ≤ q1 := by have := gInt_inl h1; omega
  have HWF := Hi (gInt_wf h1)
  clear ht h1 HG1 HKI HMA
  obtain ⟨kn, hkn⟩ : ∃ x, x = kindN t := ⟨_, rfl⟩
  have HKN := Hi hkn
  have HKI : Hid (∀ W, Calls Tryz.prog 11 #[.int .i32 t] W fun e w' => e = .returned (.int .i64 kn) ∧ w' = W) := fun W => by rw [hkn]; exact kind_any t W
  clear hkn
  have HMA : Hid (∀ W, Calls Tryz.prog 72 #[.int .i32 t, .int .i32 i] W fun e w' => e = .returned (.bool (mayN t i)) ∧ w' = W) := fun W => may_any t i W
  refine Hi ?_
  go_wp2_with (first
   | (go_at_call 11; refine (HKI.out _).mono ?_; rintro e w3 ⟨rfl, he⟩; obtain rfl := he.symm)
   | (go_at_call 72; refine (HMA.out _).mono ?_; rintro e w3 ⟨rfl, he⟩; obtain rfl := he.symm)
   | (go_at_call 60; refine HT.out.mono ?_; rintro e w3 ⟨⟨v, rfl, rfl⟩, hkp, hR⟩; have H1 := Hi (H0.out.read hkp hR); clear hkp hR; refine Hid.out ?_))
  clear HT H0
  by_cases htm : t = -1
  · subst htm
    have HG3 : Hid (gSubs n i k l p = pre (Q.map Prod.fst) ((markR (-1) i k1 (gSubs m')) l q1)) := HG2.out.trans (by unfold hdrR; rw [if_neg (by simp)])
    clear HG2
    have ht := rBool_any B R c q1 A l _ H1.out.rdr
    rcases h1 : gBool l q1 with ⟨e, q2⟩ | ⟨er, q2⟩
    rotate_left
    · rw [h1] at ht
      have HT := Hi ht
      have HGE := Hi (HG3.out.trans (pre_inr (gb_no h1)))
      clear ht h1
      refine Hi ?_
      go_wp2_with (first
       | (go_at_call 11; refine (HKI.out _).mono ?_; rintro e w3 ⟨rfl, he⟩; obtain rfl := he.symm)
       | (go_at_call 128; refine HT.out.mono ?_; rintro e w3 ⟨rfl, hkp, hR⟩; have HN := Hi (H1.out.read hkp hR); clear hkp hR))
      exact ⟨rfl, RendX.no HGE.out HN.out.kp HN.out.rdr⟩
    rw [h1] at ht
    have hleq2 : q1 ≤ q2 := (bool_bk' h1).2.1
    have HT := Hi ht
    have HG4 : Hid (gSubs n i k l p = pre (Q.map Prod.fst) ((if (e != ((-1 : Int) == -1)) = true then gFailR 22 else numR e (-1) i k1 (gSubs m')) l q2)) := HG3.out.trans (congrArg (pre (Q.map Prod.fst)) (gb_ev h1))
    clear ht h1 HG3
    refine Hi ?_
    go_wp2_with (first
     | (go_at_call 11; refine (HKI.out _).mono ?_; rintro e w3 ⟨rfl, he⟩; obtain rfl := he.symm)
     | (go_at_call 128; refine HT.out.mono ?_; rintro e w4 ⟨⟨v, rfl, rfl⟩, hkp, hR⟩; have H2 := Hi (H1.out.read hkp hR); clear hkp hR; refine Hid.out ?_))
    clear HT H1
    cases e
    · have HGE : Hid (gSubs n i k l p = .inr (22, q2)) := HG4.out.trans (pre_inr (by rw [if_pos (by decide)]; rfl))
      refine Hi ?_
      go_wp2_with (first
       | (go_at_call 11; refine (HKI.out _).mono ?_; rintro e w3 ⟨rfl, he⟩; obtain rfl := he.symm)
       | (go_at_call 72; refine (HMA.out _).mono ?_; rintro e w3 ⟨rfl, he⟩; obtain rfl := he.symm)
       | (go_at_call 119; refine (fail_any B R c _ A l 22 rfl _ H2.out.rdr).mono ?_; rintro e w3 ⟨rfl, he⟩; obtain rfl := he))
      exact ⟨rfl, RendX.no HGE.out H2.out.kp H2.out.rdr⟩
    have HG5 : Hid (gSubs n i k l p = pre (Q.map Prod.fst) ((numR true (-1) i k1 (gSubs m')) l q2)) := HG4.out.trans (by rw [if_neg (by decide)])
    clear HG4
    have ht := rInt_any B R c q2 A l _ H2.out.rdr
    rcases h1 : gInt l q2 with ⟨z, q3⟩ | ⟨er, q3⟩
    rotate_left
    · rw [h1] at ht
      have HT := Hi ht
      have HGE := Hi (HG5.out.trans (pre_inr (gb_no h1)))
      clear ht h1
      refine Hi ?_
      go_wp2_with (first
       | (go_at_call 60; refine HT.out.mono ?_; rintro e w3 ⟨rfl, hkp, hR⟩; have HN := Hi (H2.out.read hkp hR); clear hkp hR))
      exact ⟨rfl, RendX.no HGE.out HN.out.kp HN.out.rdr⟩
    rw [h1] at ht
    have hleq3 : q2 ≤ q3 := (int_bk h1).2.1
    have HT := Hi ht
    have HG6 : Hid (gSubs n i k l p = pre (Q.map Prod.fst) ((if (z != -1) = true then gFailR 22 else itemR true (-1) i k1 (gSubs m')) l q3)) := HG5.out.trans (congrArg (pre (Q.map Prod.fst)) (gb_ev h1))
    clear ht h1 HG5
    by_cases hz : z = -1
    rotate_left
    · have HGE : Hid (gSubs n i k l p = .inr (22, q3)) := HG6.out.trans (pre_inr (by rw [if_pos (by simpa using hz)]; rfl))
      have hzb : (z != -1) = true := by simpa using hz
      clear hz
      refine Hi ?_
      go_wp2_with (first
       | (go_at_call 60; refine HT.out.mono ?_; rintro e w5 ⟨⟨v, rfl, rfl⟩, hkp, hR⟩; have H3 := Hi (H2.out.read hkp hR); clear hkp hR; refine Hid.out ?_))
      clear HT H2
      refine Hi ?_
      go_wp2_with (first
       | (go_at_call 119; refine (fail_any B R c _ A l 22 rfl _ H3.out.rdr).mono ?_; rintro e w3 ⟨rfl, he⟩; obtain rfl := he))
      exact ⟨rfl, RendX.no HGE.out H3.out.kp H3.out.rdr⟩
    subst hz
    have HGE : Hid (gSubs n i k l p = .inl ((Q.map Prod.fst, k1), q3)) := HG6.out.trans (by rw [if_neg (by decide)]; show (Sum.inl ((Q.map Prod.fst ++ [], k1), q3) : ((List OpC × Cnt) × Nat) ⊕ (Int × Nat)) = _; rw [List.append_nil])
    clear HG6
    refine Hi ?_
    go_wp2_with (first
     | (go_at_call 60; refine HT.out.mono ?_; rintro e w5 ⟨⟨v, rfl, rfl⟩, hkp, hR⟩; have H3 := Hi (H2.out.read hkp hR); clear hkp hR; refine Hid.out ?_))
    clear HT H2
    refine Hi ?_
    go_wp2
    go_ret
    exact RendX.yes HGE.out ⟨H3.out.blk, HK1.out.1, HK1.out.2, A1, c1, Q, w.heap.size, rfl, rfl, hq2, Nat.le_refl _, H3.out.fl⟩ H3.out.kp H3.out.rdr
  have htb : (t != -1) = true := by simpa using htm
  have htc : (t == -1) = false := by simpa using htm
  by_cases hmy : mayN t i = true
  rotate_left
  · have hmf : mayN t i = false := by simpa using hmy
    have HGE : Hid (gSubs n i k l p = .inr (110, q1)) := HG2.out.trans (pre_inr (by unfold hdrR; rw [hmf, htb]; rfl))
    rw [hmf] at HMA
    clear hmy hmf htm
    refine Hi ?_
    go_wp2_with (first
     | (go_at_call 11; refine (HKI.out _).mono ?_; rintro e w3 ⟨rfl, he⟩; obtain rfl := he.symm)
     | (go_at_call 72; refine (HMA.out _).mono ?_; rintro e w3 ⟨rfl, he⟩; obtain rfl := he.symm)
     | (go_at_call 119; refine (fail_any B R c _ A l 110 rfl _ H1.out.rdr).mono ?_; rintro e w3 ⟨rfl, he⟩; obtain rfl := he))
    exact ⟨rfl, RendX.no HGE.out H1.out.kp H1.out.rdr⟩
  have HG3 : Hid (gSubs n i k l p = pre (Q.map Prod.fst) ((markR t i k1 (gSubs m')) l q1)) := HG2.out.trans (by unfold hdrR; rw [if_neg (by rw [hmy, htb]; decide)])
  rw [hmy] at HMA
  clear HG2 hmy htm
  have ht := rBool_any B R c q1 A l _ H1.out.rdr
  rcases h1 : gBool l q1 with ⟨e, q2⟩ | ⟨er, q2⟩
  rotate_left
  · rw [h1] at ht
    have HT := Hi ht
    have HGE := Hi (HG3.out.trans (pre_inr (gb_no h1)))
    clear ht h1
    refine Hi ?_
    go_wp2_with (first
     | (go_at_call 11; refine (HKI.out _).mono ?_; rintro e w3 ⟨rfl, he⟩; obtain rfl := he.symm)
     | (go_at_call 72; refine (HMA.out _).mono ?_; rintro e w3 ⟨rfl, he⟩; obtain rfl := he.symm)
     | (go_at_call 128; refine HT.out.mono ?_; rintro e w3 ⟨rfl, hkp, hR⟩; have HN := Hi (H1.out.read hkp hR); clear hkp hR))
    exact ⟨rfl, RendX.no HGE.out HN.out.kp HN.out.rdr⟩
  rw [h1] at ht
  have hleq2 : q1 ≤ q2 := (bool_bk' h1).2.1
  have HT := Hi ht
  have HG4 : Hid (gSubs n i k l p = pre (Q.map Prod.fst) ((if (e != (t == -1)) = true then gFailR 22 else numR e t i k1 (gSubs m')) l q2)) := HG3.out.trans (congrArg (pre (Q.map Prod.fst)) (gb_ev h1))
  clear ht h1 HG3
  refine Hi ?_
  go_wp2_with (first
   | (go_at_call 11; refine (HKI.out _).mono ?_; rintro e w3 ⟨rfl, he⟩; obtain rfl := he.symm)
   | (go_at_call 72; refine (HMA.out _).mono ?_; rintro e w3 ⟨rfl, he⟩; obtain rfl := he.symm)
   | (go_at_call 128; refine HT.out.mono ?_; rintro e w4 ⟨⟨v, rfl, rfl⟩, hkp, hR⟩; have H2 := Hi (H1.out.read hkp hR); clear hkp hR; refine Hid.out ?_))
  clear HT H1
  rw [htc] at HG4
  cases e
  rotate_left
  · have HGE : Hid (gSubs n i k l p = .inr (22, q2)) := HG4.out.trans (pre_inr (by rw [if_pos (by decide)]; rfl))
    refine Hi ?_
    go_wp2_with (first
     | (go_at_call 11; refine (HKI.out _).mono ?_; rintro e w3 ⟨rfl, he⟩; obtain rfl := he.symm)
     | (go_at_call 72; refine (HMA.out _).mono ?_; rintro e w3 ⟨rfl, he⟩; obtain rfl := he.symm)
     | (go_at_call 119; refine (fail_any B R c _ A l 22 rfl _ H2.out.rdr).mono ?_; rintro e w3 ⟨rfl, he⟩; obtain rfl := he))
    exact ⟨rfl, RendX.no HGE.out H2.out.kp H2.out.rdr⟩
  have HG5 : Hid (gSubs n i k l p = pre (Q.map Prod.fst) ((numR false t i k1 (gSubs m')) l q2)) := HG4.out.trans (by rw [if_neg (by decide)])
  clear HG4
  have ht := rInt_any B R c q2 A l _ H2.out.rdr
  rcases h1 : gInt l q2 with ⟨z, q3⟩ | ⟨er, q3⟩
  rotate_left
  · rw [h1] at ht
    have HT := Hi ht
    have HGE := Hi (HG5.out.trans (pre_inr (gb_no h1)))
    clear ht h1
    refine Hi ?_
    go_wp2_with (first
     | (go_at_call 60; refine HT.out.mono ?_; rintro e w3 ⟨rfl, hkp, hR⟩; have HN := Hi (H2.out.read hkp hR); clear hkp hR))
    exact ⟨rfl, RendX.no HGE.out HN.out.kp HN.out.rdr⟩
  rw [h1] at ht
  have hleq3 : q2 ≤ q3 := (int_bk h1).2.1
  have HT := Hi ht
  have HG6 : Hid (gSubs n i k l p = pre (Q.map Prod.fst) ((if (z != -1) = true then gFailR 22 else itemR false t i k1 (gSubs m')) l q3)) := HG5.out.trans (congrArg (pre (Q.map Prod.fst)) (gb_ev h1))
  clear ht h1 HG5
  by_cases hz : z = -1
  rotate_left
  · have HGE : Hid (gSubs n i k l p = .inr (22, q3)) := HG6.out.trans (pre_inr (by rw [if_pos (by simpa using hz)]; rfl))
    have hzb : (z != -1) = true := by simpa using hz
    clear hz
    refine Hi ?_
    go_wp2_with (first
     | (go_at_call 60; refine HT.out.mono ?_; rintro e w5 ⟨⟨v, rfl, rfl⟩, hkp, hR⟩; have H3 := Hi (H2.out.read hkp hR); clear hkp hR; refine Hid.out ?_))
    clear HT H2
    refine Hi ?_
    go_wp2_with (first
     | (go_at_call 119; refine (fail_any B R c _ A l 22 rfl _ H3.out.rdr).mono ?_; rintro e w3 ⟨rfl, he⟩; obtain rfl := he))
    exact ⟨rfl, RendX.no HGE.out H3.out.kp H3.out.rdr⟩
  subst hz
  have HG7 : Hid (gSubs n i k l p = pre (Q.map Prod.fst) ((itemR false t i k1 (gSubs m')) l q3)) := HG6.out.trans (by rw [if_neg (by decide)])
  clear HG6
  refine Hi ?_
  go_wp2_with (first
   | (go_at_call 60; refine HT.out.mono ?_; rintro e w5 ⟨⟨v, rfl, rfl⟩, hkp, hR⟩; have H3 := Hi (H2.out.read hkp hR); clear hkp hR; refine Hid.out ?_))
  clear HT H2
  have hmm : k1.multis ≤ 1024 := hkm
  by_cases hk2 : kn = 2
  · subst hk2
    have ht14 : t = 14 := kind_14.1 HKN.out.symm
    subst ht14
    have hc1 := yC H3.out.blk (u := .int .i64 (k1.multis : Int)) 1 rfl
    have hf1 := H3.out.blk.frozen 1
    obtain ⟨w6, hw6⟩ : ∃ w6, w5.setCell ⟨C, 1, none⟩ (.int .i64 ((k1.multis : Int) + 1)) = w6 := ⟨_, rfl⟩
    have H4 : Hid (SSt w B R c A l C q3 ⟨k1.parts, k1.multis + 1, k1.depth⟩ (.slice A1 Q.length c1) Q w6) := by
     unfold Hid
     rw [← hw6]
     exact H3.out.set_ 1 _ (by unfold Cnt.row; simp)
    have hd0 := yC H4.out.blk (u := .int .i64 (k1.parts : Int)) 0 rfl
    have hd1 : w6.cell? ⟨C, 1, none⟩ = some (.int .i64 ((k1.multis : Int) + 1)) := by
     rw [yC H4.out.blk (u := .int .i64 ((k1.multis + 1 : Nat) : Int)) 1 rfl, Int.natCast_add]
     rfl
    have hd2 := yC H4.out.blk (u := .int .i64 (k1.depth : Int)) 2 rfl
    have HMO : Hid (k1.more 14 = ⟨k1.parts, k1.multis + 1, k1.depth⟩) := more_multis
    have hpp : ¬ (1024 : Int) < k1.parts := by omega
    by_cases hbm : (1024 : Int) < (k1.multis : Int) + 1
    · have HGE : Hid (gSubs n i k l p = .inr (3, q3)) := HG7.out.trans (pre_inr (by unfold itemR; rw [if_neg (by decide), HMO.out, if_pos (by unfold Cnt.big; dsimp only; rw [show decide (((k1.multis + 1 : Nat) : Int) > 1024) = true from decide_eq_true (by omega)]; rfl)]; rfl))
      refine Hi ?_
      go_wp2_with (first
       | (go_at_call 119; refine (fail_any B R c _ A l 3 rfl _ H4.out.rdr).mono ?_; rintro e w3 ⟨rfl, he⟩; obtain rfl := he))
      exact ⟨rfl, RendX.no HGE.out H4.out.kp H4.out.rdr⟩
    by_cases hbd : (k1.depth : Int) = 8
    · have hbe : ((k1.depth : Int) == 8) = true := by simpa using hbd
      have HGE : Hid (gSubs n i k l p = .inr (3, q3)) := HG7.out.trans (pre_inr (by unfold itemR; rw [if_neg (by decide), HMO.out, if_pos (by unfold Cnt.big; dsimp only; rw [hbe, show (kindN 14 == 2) = true from by decide]; simp)]; rfl))
      clear hbd
      refine Hi ?_
      go_wp2_with (first
       | (go_at_call 119; refine (fail_any B R c _ A l 3 rfl _ H4.out.rdr).mono ?_; rintro e w3 ⟨rfl, he⟩; obtain rfl := he))
      exact ⟨rfl, RendX.no HGE.out H4.out.kp H4.out.rdr⟩
    have hbe : ((k1.depth : Int) == 8) = false := by simpa using hbd
    have HBIG : Hid ((k1.more 14).big 14 = false) := by unfold Hid; rw [HMO.out]; unfold Cnt.big; dsimp only; rw [hbe]; simp; omega
    have HK2 : Hid ((⟨k1.parts, k1.multis + 1, k1.depth⟩ : Cnt).Ok) := ⟨hkp, by dsimp only; omega, hkd⟩
    have HD8 : Hid ((14 : Int) = 14 → (⟨k1.parts, k1.multis + 1, k1.depth⟩ : Cnt).depth < 8) := fun _ => by dsimp only; omega
    clear hbd
    have HGI : Hid (gSubs n i k l p = pre (Q.map Prod.fst) (itemOf (gSubs m') i 14 k1 l q3)) := HG7.out.trans (by unfold itemR; rw [if_neg (by decide), HBIG.out, if_neg (by decide)])
    have hget := HGET.out m' (by omega) B R c q3 C A l 14 ⟨k1.parts, k1.multis + 1, k1.depth⟩ w6 HWF.out H4.out.rdr H4.out.blk H4.out.nR H4.out.nB HK2.out HD8.out (by have := H4.out.rdr.here; omega)
    rcases h1 : opWith (gSubs m') 14 ⟨k1.parts, k1.multis + 1, k1.depth⟩ l q3 with ⟨⟨x, k3⟩, q4⟩ | ⟨er, q4⟩
    rotate_left
    · rw [h1] at hget
      have HT := Hi hget
      have HGE : Hid (gSubs n i k l p = .inr (er, q4)) := HGI.out.trans (pre_itemno _ (by rw [HMO.out]; exact h1))
      clear hget h1
      refine Hi ?_
      go_wp2_with (first
       | (go_at_call 84; refine HT.out.mono ?_; rintro e w7 ⟨rfl, hkp7, hR7⟩; have HKP := Hi (H4.out.kp.trans hkp7); have HR := Hi hR7; clear hkp7 hR7))
      exact ⟨rfl, RendX.no HGE.out HKP.out HR.out⟩
    rw [h1] at hget
    have HT := Hi hget
    have HGN : Hid (gSubs n i k l p = pre ((Q ++ [(x, ([] : List Value))]).map Prod.fst) (gSubs m' i k3 l q4)) := HGI.out.trans (by rw [List.map_append]; exact pre_item _ (by rw [HMO.out]; exact h1))
    obtain ⟨f1, f2, f3, f4, f5, f6, _⟩ := op_forth (subs_forth m') h1 H4.out.rdr.here HK2.out HD8.out
    have hle4 : q3 ≤ q4 := f1.2.1
    have hq4l : q4 ≤ l.length := f1.2.2
    have HK3 : Hid (Q.length + 1 ≤ k3.parts + k3.multis ∧ k3.Ok ∧ k3.depth = k1.depth) := by
     have ha := after_more x k1
     rw [f2, HMO.out] at ha
     rw [ha] at f4
     have := one_count x
     refine ⟨?_, f5, ?_⟩
     · rw [f4]; dsimp only; omega
     · rw [f4]
    have HWV : Hid (∀ g, (Value.slice A1 Q.length c1).ownBlock = some g → g < w6.heap.size) := fun g hg => H4.out.fl.lt hg
    have hfl6 : w.heap.size ≤ w6.heap.size := H4.out.fl.bs
    clear hget h1 f1 f2 f3 f4 f5 f6 HG7 HGI
    refine Hi ?_
    go_wp2_with (first
     | (go_at_call 84
        refine HT.out.mono ?_
        rintro e w7 ⟨⟨v, rfl, hblk, hok, hdep, cs, rfl, hat⟩, hkp7, hR7⟩
        have H7 := Hi (H4.out.got hkp7 hR7 hblk)
        have HAT := Hi hat
        have hz7 : w6.heap.size ≤ w7.heap.size := hkp7.size
        have HRS : Hid ((Value.agg cs.toArray).cells.size = 19) := (by unfold Hid; show cs.toArray.size = 19; rw [zO, hat.len])
        clear hkp7 hR7 hblk hok hdep hat)
     | (refine wpList_build1 rfl 27 29 (.tmp 87) rfl (.agg cs.toArray) rfl 19 zU27 isz_29 zer_op (by decide) HRS.out ?_
        obtain ⟨w8, hw8⟩ := xa w7 (cs.toArray) 29
        have hc8 : (Value.agg cs.toArray).cells = cs.toArray := rfl
        rw [hc8, hw8]
        have hb8 := zV hw8
        have hn8 := zW hw8
        have H8 := Hi (H7.out.keep (Kp.of_below hb8))
        have HW8 : Hid (Win w8 w6.heap.size w8.heap.size x cs) := Win.new (HAT.out.later hb8)
        have HR8 : Hid (Reads w8 w8.heap.size 19 (some ⟨w7.heap.size, 0, none⟩) 1 cs) := ⟨(by rw [HAT.out.len]), fun _ => ⟨⟨w7.heap.size, 0, none⟩, rfl, hn8.lt, fun j u hj => (by rw [zN, Nat.zero_add, hn8.cell]; simpa using hj)⟩⟩
        have HO8 : Hid (∀ u ∈ cs, u.oneCell' = true) := fun v hv => (by
         have := HAT.out.one
         rw [zQ] at this
         exact this v (by simpa using hv))
        have HOW : Hid (w8.ownsRow w.heap.size 29 19 (.slice A1 Q.length c1) Q.length (Q.flatMap Prod.snd)) := H8.out.fl.own
        clear hw8 hc8 hb8 hn8)
     | (at_builtin
        refine wpList_append_any _ rfl (.tmp 83) (.tmp 88) _ rfl w.heap.size 29 i0 _ 19 296 zU27 hi0 hz0 hzi1 hzi2 rfl (by decide) (.slice A1 Q.length c1) Q.length (Q.flatMap Prod.snd) rfl HOW.out w8.heap.size (some ⟨w7.heap.size, 0, none⟩) 1 1 cs rfl HR8.out HO8.out (by unfold maxLen; omega) (by omega) H8.out.fl.bs ?_
        intro v9 w9 hown9 hg9 hat9
        obtain ⟨A9, c9, rfl⟩ := slice_form hown9
        have H9 : Hid (SSt w B R c A l C q4 k3 (.slice A9 (Q.length + 1) c9) (Q ++ [(x, cs)]) w9) := H8.out.push HW8.out hfl6 HWV.out hown9 hg9 hat9
        clear hown9 hg9 hat9))
    go_roundw
    case rel => exact ⟨m', q4, k3, A9, c9, Q ++ [(x, cs)], by rw [zG]; rfl, by omega, by omega, by rw [zG]; exact HK3.out.1, by unfold Hid; rw [List.map_append] at *; exact HGN.out, ⟨HK3.out.2.1, HK3.out.2.2.trans HK1.out.2⟩, by unfold Hid; rw [zG]; exact H9.out⟩
    case measure =>
     have e9 := H9.out.rdr.blk.cell 1
     have e0 := HS.out.rdr.blk.cell 1
     rw [e9, e0]
     simp [intOf]
     omega
  have ht14 : ¬ t = 14 := fun e => hk2 (HKN.out.trans (kind_14.2 e))
  have hkf : (kn == 2) = false := by simpa using hk2
  have hc0 := yC H3.out.blk (u := .int .i64 (k1.parts : Int)) 0 rfl
  have hf0 := H3.out.blk.frozen 0
  obtain ⟨w6, hw6⟩ : ∃ w6, w5.setCell ⟨C, 0, none⟩ (.int .i64 ((k1.parts : Int) + 1)) = w6 := ⟨_, rfl⟩
  have H4 : Hid (SSt w B R c A l C q3 ⟨k1.parts + 1, k1.multis, k1.depth⟩ (.slice A1 Q.length c1) Q w6) := by
   unfold Hid
   rw [← hw6]
   exact H3.out.set_ 0 _ (by unfold Cnt.row; simp)
  have hd0 : w6.cell? ⟨C, 0, none⟩ = some (.int .i64 ((k1.parts : Int) + 1)) := by
   rw [yC H4.out.blk (u := .int .i64 ((k1.parts + 1 : Nat) : Int)) 0 rfl, Int.natCast_add]
   rfl
  have hd1 := yC H4.out.blk (u := .int .i64 (k1.multis : Int)) 1 rfl
  have HMO : Hid (k1.more t = ⟨k1.parts + 1, k1.multis, k1.depth⟩) := more_parts ht14
  have hmq : ¬ (1024 : Int) < k1.multis := by omega
  have HKF : Hid ((kindN t == 2) = false) := by unfold Hid; rw [← HKN.out]; exact hkf
  have HT14 := Hi ht14
  clear ht14
  by_cases hbm : (1024 : Int) < (k1.parts : Int) + 1
  · have HGE : Hid (gSubs n i k l p = .inr (3, q3)) := HG7.out.trans (pre_inr (by unfold itemR; rw [if_neg (by decide), HMO.out, if_pos (by unfold Cnt.big; dsimp only; rw [show decide (((k1.parts + 1 : Nat) : Int) > 1024) = true from decide_eq_true (by omega)]; simp)]; rfl))
    refine Hi ?_
    go_wp2_with (first
     | (go_at_call 119; refine (fail_any B R c _ A l 3 rfl _ H4.out.rdr).mono ?_; rintro e w3 ⟨rfl, he⟩; obtain rfl := he))
    exact ⟨rfl, RendX.no HGE.out H4.out.kp H4.out.rdr⟩
  have HBIG : Hid ((k1.more t).big t = false) := by unfold Hid; rw [HMO.out]; unfold Cnt.big; dsimp only; rw [HKF.out]; simp; omega
  have HK2 : Hid ((⟨k1.parts + 1, k1.multis, k1.depth⟩ : Cnt).Ok) := ⟨by dsimp only; omega, hkm, hkd⟩
  have HD8 : Hid (t = 14 → (⟨k1.parts + 1, k1.multis, k1.depth⟩ : Cnt).depth < 8) := fun e => absurd e HT14.out
  have HGI : Hid (gSubs n i k l p = pre (Q.map Prod.fst) (itemOf (gSubs m') i t k1 l q3)) := HG7.out.trans (by unfold itemR; rw [if_neg (by decide), HBIG.out, if_neg (by decide)])
  have hget := HGET.out m' (by omega) B R c q3 C A l t ⟨k1.parts + 1, k1.multis, k1.depth⟩ w6 HWF.out H4.out.rdr H4.out.blk H4.out.nR H4.out.nB HK2.out HD8.out (by have := H4.out.rdr.here; omega)
  rcases h1 : opWith (gSubs m') t ⟨k1.parts + 1, k1.multis, k1.depth⟩ l q3 with ⟨⟨x, k3⟩, q4⟩ | ⟨er, q4⟩
  rotate_left
  · rw [h1] at hget
    have HT := Hi hget
    have HGE : Hid (gSubs n i k l p = .inr (er, q4)) := HGI.out.trans (pre_itemno _ (by rw [HMO.out]; exact h1))
    clear hget h1
    refine Hi ?_
    go_wp2_with (first
     | (go_at_call 84; refine HT.out.mono ?_; rintro e w7 ⟨rfl, hkp7, hR7⟩; have HKP := Hi (H4.out.kp.trans hkp7); have HR := Hi hR7; clear hkp7 hR7))
    exact ⟨rfl, RendX.no HGE.out HKP.out HR.out⟩
  rw [h1] at hget
  have HT := Hi hget
  have HGN : Hid (gSubs n i k l p = pre ((Q ++ [(x, ([] : List Value))]).map Prod.fst) (gSubs m' i k3 l q4)) := HGI.out.trans (by rw [List.map_append]; exact pre_item _ (by rw [HMO.out]; exact h1))
  obtain ⟨f1, f2, f3, f4, f5, f6, _⟩ := op_forth (subs_forth m') h1 H4.out.rdr.here HK2.out HD8.out
  have hle4 : q3 ≤ q4 := f1.2.1
  have hq4l : q4 ≤ l.length := f1.2.2
  have HK3 : Hid (Q.length + 1 ≤ k3.parts + k3.multis ∧ k3.Ok ∧ k3.depth = k1.depth) := by
   have ha := after_more x k1
   rw [f2, HMO.out] at ha
   rw [ha] at f4
   have := one_count x
   refine ⟨?_, f5, ?_⟩
   · rw [f4]; dsimp only; omega
   · rw [f4]
  have HWV : Hid (∀ g, (Value.slice A1 Q.length c1).ownBlock = some g → g < w6.heap.size) := fun g hg => H4.out.fl.lt hg
  have hfl6 : w.heap.size ≤ w6.heap.size := H4.out.fl.bs
  clear hget h1 f1 f2 f3 f4 f5 f6 HG7 HGI
  refine Hi ?_
  go_wp2_with (first
   | (go_at_call 84
      refine HT.out.mono ?_
      rintro e w7 ⟨⟨v, rfl, hblk, hok, hdep, cs, rfl, hat⟩, hkp7, hR7⟩
      have H7 := Hi (H4.out.got hkp7 hR7 hblk)
      have HAT := Hi hat
      have hz7 : w6.heap.size ≤ w7.heap.size := hkp7.size
      have HRS : Hid ((Value.agg cs.toArray).cells.size = 19) := (by unfold Hid; show cs.toArray.size = 19; rw [zO, hat.len])
      clear hkp7 hR7 hblk hok hdep hat)
   | (refine wpList_build1 rfl 27 29 (.tmp 87) rfl (.agg cs.toArray) rfl 19 zU27 isz_29 zer_op (by decide) HRS.out ?_
      obtain ⟨w8, hw8⟩ := xa w7 (cs.toArray) 29
      have hc8 : (Value.agg cs.toArray).cells = cs.toArray := rfl
      rw [hc8, hw8]
      have hb8 := zV hw8
      have hn8 := zW hw8
      have H8 := Hi (H7.out.keep (Kp.of_below hb8))
      have HW8 : Hid (Win w8 w6.heap.size w8.heap.size x cs) := Win.new (HAT.out.later hb8)
      have HR8 : Hid (Reads w8 w8.heap.size 19 (some ⟨w7.heap.size, 0, none⟩) 1 cs) := ⟨(by rw [HAT.out.len]), fun _ => ⟨⟨w7.heap.size, 0, none⟩, rfl, hn8.lt, fun j u hj => (by rw [zN, Nat.zero_add, hn8.cell]; simpa using hj)⟩⟩
      have HO8 : Hid (∀ u ∈ cs, u.oneCell' = true) := fun v hv => (by
       have := HAT.out.one
       rw [zQ] at this
       exact this v (by simpa using hv))
      have HOW : Hid (w8.ownsRow w.heap.size 29 19 (.slice A1 Q.length c1) Q.length (Q.flatMap Prod.snd)) := H8.out.fl.own
      clear hw8 hc8 hb8 hn8)
   | (at_builtin
      refine wpList_append_any _ rfl (.tmp 83) (.tmp 88) _ rfl w.heap.size 29 i0 _ 19 296 zU27 hi0 hz0 hzi1 hzi2 rfl (by decide) (.slice A1 Q.length c1) Q.length (Q.flatMap Prod.snd) rfl HOW.out w8.heap.size (some ⟨w7.heap.size, 0, none⟩) 1 1 cs rfl HR8.out HO8.out (by unfold maxLen; omega) (by omega) H8.out.fl.bs ?_
      intro v9 w9 hown9 hg9 hat9
      obtain ⟨A9, c9, rfl⟩ := slice_form hown9
      have H9 : Hid (SSt w B R c A l C q4 k3 (.slice A9 (Q.length + 1) c9) (Q ++ [(x, cs)]) w9) := H8.out.push HW8.out hfl6 HWV.out hown9 hg9 hat9
      clear hown9 hg9 hat9))
  go_roundw
  case rel => exact ⟨m', q4, k3, A9, c9, Q ++ [(x, cs)], by rw [zG]; rfl, by omega, by omega, by rw [zG]; exact HK3.out.1, by unfold Hid; rw [List.map_append] at *; exact HGN.out, ⟨HK3.out.2.1, HK3.out.2.2.trans HK1.out.2⟩, by unfold Hid; rw [zG]; exact H9.out⟩
  case measure =>
   have e9 := H9.out.rdr.blk.cell 1
   have e0 := HS.out.rdr.blk.cell 1
   rw [e9, e0]
   simp [intOf]
   omega
theorem subs_all : ∀ n, SubsOk n := fun n => by
 induction n using Nat.strongRecOn with
 | ind n ih => exact subs_any n fun m hm => get_any m (ih m hm)
theorem get_all (n : Nat) : GetOk n := get_any n (subs_all n)

theorem get_allT (t : Int) (n : Nat) : GetT t n := fun B R c p C A l k w => get_all n B R c p C A l t k w

abbrev Oq31R1 : Array Value := #[.int .i32 0, .int .i32 0, .string ⟨#[]⟩, .slice none 0 0, .slice none 0 0, .int .i32 0, .int .i32 0, .bool false, .int .i64 0, .int .i64 0, .int .i64 0, .int .i64 0, .slice none 0 0, .slice none 0 0, .slice none 0 0, .slice none 0 0, .slice none 0 0, .int .i32 0, .slice none 0 0, .slice none 0 0]

theorem hidT {w w1 w2 : World} (h : Hid (Below w.heap.size w w1)) (k : Below w1.heap.size w1 w2) : Hid (Below w.heap.size w w2) := Hi (h.out.trans (k.mono h.out.size))
theorem newB {w w' : World} {x} (h : w.alloc x = w') : Below w.heap.size w w' := by subst h; exact zT.alloc zR _
theorem newK {w w' : World} {t : TypeId} {cs : Array Value} (h : w.alloc (.cells cs t) = w') : Blk w' w.heap.size t cs := by subst h; exact Blk.new _ _ _
theorem wpAt (n : Nat) {a b c d e r P Q p f w} (h : wpList p f w (Oper.mk (some n) a b c d e :: r) P Q) : wpList p f w (Oper.mk (some n) a b c d e :: r) P Q := h
theorem rightE_mk {x : OpC} (h1 : x.allE = 0) (h2 : x.depth ≤ 8) (h3 : x.parts ≤ 1024) (h4 : x.multis ≤ 1024) : x.rightE = 0 := by
 unfold OpC.rightE
 rw [if_neg (by simpa using h1), if_neg]
 simp only [Bool.or_eq_true, decide_eq_true_eq, not_or]
 omega
theorem decO_of {l : List UInt8} {y : Int × OpC} {q : Nat} (h : gReq l 0 = .inl (y, q)) : decO l = if q < l.length then .inl ((q : Int), 21) else .inr y := by
 unfold decO
 rw [h]
theorem decO_eq {l : List UInt8} {y : Int × OpC} {q : Nat} (h : gReq l 0 = .inl (y, q)) (hq : q = l.length) : decO l = .inr y := by
 rw [decO_of h, if_neg (by omega)]
theorem decO_lt {l : List UInt8} {y : Int × OpC} {q : Nat} (h : gReq l 0 = .inl (y, q)) (hq : q < l.length) : decO l = .inl ((q : Int), 21) := by
 rw [decO_of h, if_pos hq]
def aliveF : OpF := ⟨2, ⟨#[47, 97]⟩, [], [], 0, -1, false, 0, 0, 0, 0, [], [], [], [], [], 0, []⟩
def aliveX : OpC := .mk aliveF []
theorem aliveF_ok : aliveF.Ok := ⟨rfl, rfl, rfl, rfl, rfl, rfl, rfl, rfl, (by show (2 : Nat) ≤ reachBytes; unfold reachBytes; omega), fun _ h => (nomatch h), fun _ h => (nomatch h), fun _ h => (nomatch h), fun _ h => (nomatch h), fun _ h => (nomatch h), fun _ h => (nomatch h), fun _ h => (nomatch h)⟩
theorem alive_own : ownE aliveF 0 = 0 := by kernel_rfl
theorem alive_all : aliveX.allE = 0 := by
 unfold aliveX
 rw [OpC.allE, show ([] : List OpC).length = 0 from rfl, alive_own, if_neg (by simp), allL]
theorem alive_right : aliveX.rightE = 0 := rightE_mk alive_all (by unfold aliveX; rw [OpC.depth, if_neg (by decide)]; omega) (by unfold aliveX; rw [OpC.parts, if_neg (by decide)]; omega) (by unfold aliveX; rw [OpC.multis, if_neg (by decide)]; omega)
theorem alive_enc : aliveX.encE = 0 := by
 unfold OpC.encE
 rw [alive_right, if_neg (by simp), if_neg (by decide)]
def aliveB : List UInt8 := [0, 0, 0, 1, 0, 0, 0, 2, 0, 0, 0, 2, 47, 97, 255, 255, 255, 255]
theorem alive_bytes : encB 1 aliveX = aliveB := by
 unfold encB aliveX
 rw [OpC.putB, if_neg (by decide)]
 kernel_rfl
theorem alive_req : gReq aliveB 0 = .inl ((1, aliveX), 18) := by kernel_rfl
theorem alive_req0 : gReq (aliveB ++ [0]) 0 = .inl ((1, aliveX), 18) := by kernel_rfl
theorem get_two (n : Nat) : GetT 2 n := fun B R c p C A l k w _ h hC hCR _ hk _ _ => getX_of (get_g2 2 (by decide) B R c p A l w _ h) (opWith_fld (by decide) (by decide)) hC hCR hk
theorem alive_types {l : List UInt8} (h1 : gInt l 0 = .inl (1, 4)) (h2 : gInt l 4 = .inl (2, 8)) (z : Int) (q : Nat) (t : Int) (q' : Nat) (h3 : gInt l 0 = .inl (z, q)) (h4 : gInt l q = .inl (t, q')) : GetT t (l.length + 1) := by
 rw [h1] at h3
 injection h3 with h3
 injection h3 with _ h3
 subst h3
 rw [h2] at h4
 injection h4 with h4
 injection h4 with h4 _
 subst h4
 exact get_two _
theorem alive_typesA (z : Int) (q : Nat) (t : Int) (q' : Nat) : gInt (encB 1 aliveX) 0 = .inl (z, q) → gInt (encB 1 aliveX) q = .inl (t, q') → GetT t ((encB 1 aliveX).length + 1) := by
 rw [alive_bytes]; exact alive_types (by kernel_rfl) (by kernel_rfl) z q t q'
theorem alive_typesB (z : Int) (q : Nat) (t : Int) (q' : Nat) : gInt (encB 1 aliveX ++ [0]) 0 = .inl (z, q) → gInt (encB 1 aliveX ++ [0]) q = .inl (t, q') → GetT t ((encB 1 aliveX ++ [0]).length + 1) := by
 rw [alive_bytes]; exact alive_types (by kernel_rfl) (by kernel_rfl) z q t q'
theorem alive_len : (encB 1 aliveX).length = 18 := by
 unfold encB aliveX
 rw [OpC.putB, if_neg (by decide)]
 show (bInt 1 ++ bInt 2 ++ (bBuf [47, 97] ++ bInt (-1))).length = 18
 simp only [zG, bInt_len, bBuf_len, zM, zK]
theorem alive_bulk : aliveX.bulk ≤ 1000000000 := by
 unfold aliveX
 rw [OpC.bulk, bulkL]
 decide
theorem alive_nodes : aliveX.nodes ≤ 1000000 := by
 unfold aliveX
 rw [OpC.nodes, nodesL]
 decide
theorem alive_flat : aliveX.flatten = [aliveX] := by
 unfold OpC.flatten
 rw [alive_right, if_neg (by simp)]
 unfold aliveX
 rw [OpC.flat, if_neg (by decide)]
def aliveR : List Value := aliveF.row nilS nilS nilS nilS nilS nilS nilS nilS nilS
theorem alive_at (w : World) : At w (some 0) aliveX aliveR := .mk aliveF nilS nilS nilS nilS nilS nilS nilS nilS nilS [] aliveF_ok (SlAt.zero _ _ _ _ _) (SlAt.zero _ _ _ _ _) (SlAt.zero _ _ _ _ _) (SlAt.zero _ _ _ _ _) (SlAt.zero _ _ _ _ _) (SlAt.zero _ _ _ _ _) (SlAt.zero _ _ _ _ _) (SlAt.zero _ _ _ _ _) (SlAt.zero _ _ _ _ _) (fun _ h => by cases h)
theorem At.c1 {w : World} {lo : Option Nat} {x : OpC} {cs : List Value} (h : At w lo x cs) : cs[1]? = some (.string x.f.p) := by
 cases h
 rfl
theorem At.c5 {w : World} {lo : Option Nat} {x : OpC} {cs : List Value} (h : At w lo x cs) : cs[5]? = some (.int .i32 x.f.ve) := by
 cases h
 rfl
theorem own_capO {w : World} {base size n c : Nat} {e : TypeId} {A : Option Addr} {xs : List Value} (h : w.ownsRow base e size (.slice A n c) n xs) : n ≤ c := by
 rcases h.2 with ⟨h1, h2⟩ | ⟨g, cap, cur, h1, _, _, hc, _⟩
 · injection h1 with _ h3 h4
   omega
 · injection h1 with _ _ h3
   omega
theorem reads_litO (w : World) (t : TypeId) (fr : Nat × Nat) (xs : List Value) : Reads (w.alloc (.cells xs.toArray t fr)) (w.heap.size + 1) 1 (some ⟨w.heap.size, 0, none⟩) xs.length xs :=
 ⟨by simp, fun _ => ⟨_, rfl, Nat.lt_succ_self _, fun j u hu => by
   have h := cell_of_row (w.alloc (.cells xs.toArray t fr)) w.heap.size j xs.toArray t fr (heap_alloc_new w _)
   rw [zN, Nat.zero_add, h]
   simpa using hu⟩⟩
theorem own_lowO {w : World} {b b' size n : Nat} {e : TypeId} {v : Value} {xs : List Value} (h : w.ownsRow b e size v n xs) (hb : b' ≤ b) : w.ownsRow b' e size v n xs :=
 ⟨h.1, h.2.imp id fun ⟨g, cap, cur, h1, h2, h3⟩ => ⟨g, cap, cur, h1, Nat.le_trans hb h2, h3⟩⟩
structure ReqRow (w : World) (g : Nat) (z : Int) (x : OpC) (cs : List Value) : Prop where
 blk : Blk w g 44 (Value.int .i32 z :: cs).toArray
 c0 : w.cell? ⟨g, 0, none⟩ = some (.int .i32 z)
 cp : w.cell? ⟨g, 2, none⟩ = some (.string x.f.p)
 cv : w.cell? ⟨g, 6, none⟩ = some (.int .i32 x.f.ve)
 row : ∀ j v, cs[j]? = some v → w.cell? ((⟨g, 1, none⟩ : Addr).add j) = some v
theorem ReqRow.mk' {w w0 : World} {lo : Option Nat} {g : Nat} {z : Int} {x : OpC} {cs : List Value} (h : Blk w g 44 (Value.int .i32 z :: cs).toArray) (ha : At w0 lo x cs) : ReqRow w g z x cs :=
 ⟨h, yC h 0 rfl, yC h 2 (by have := ha.c1; simpa using this), yC h 6 (by have := ha.c5; simpa using this), fun j v hv => by
   rw [zN, Nat.add_comm]
   exact yC h (j + 1) (by simpa using hv)⟩
theorem dec_alive1 {w w' : World} {e : Ending} (h : Decoded (encB 1 aliveX) w e w') : Below w.heap.size w w' ∧ ∃ cs : List Value, e = .returned (.tuple #[.agg (Value.int .i32 1 :: cs).toArray, .int .i64 0, .int .i64 0]) ∧ At w' (some w.heap.size) aliveX cs := by
 obtain ⟨h1, h2⟩ := h
 rw [alive_bytes, decO_eq alive_req rfl] at h2
 exact ⟨h1, h2⟩
theorem dec_alive2 {w w' : World} {e : Ending} (h : Decoded (encB 1 aliveX ++ [0]) w e w') : Below w.heap.size w w' ∧ e = .returned (.tuple #[.agg zReq.toArray, .int .i64 18, .int .i64 21]) := by
 obtain ⟨h1, h2⟩ := h
 rw [alive_bytes, decO_lt alive_req0 (by decide)] at h2
 exact ⟨h1, h2.2.2⟩
theorem enc_alive {w w' : World} {e : Ending} (h : Encoded w 1 aliveX e w') : Below w.heap.size w w' ∧ ∃ base A c, w.heap.size ≤ base ∧ e = .returned (.tuple #[.slice A 18 c, .int .i64 0]) ∧ w'.ownsRow base 5 1 (.slice A 18 c) 18 (bcells (encB 1 aliveX)) := by
 obtain ⟨h1, h2 | ⟨_, h2⟩⟩ := h
 · exact absurd alive_enc h2.1
 · rw [alive_len] at h2
   exact ⟨h1, h2⟩
theorem list_alive {w w' : World} {e : Ending} (h : Listed w aliveX.flatten e w') : Below w.heap.size w w' ∧ ∃ A c, e = .returned (.slice A 1 c) := by
 obtain ⟨A, c, R, base, h1, h2, h3, h4, h5⟩ := h
 rw [alive_flat] at h2
 have : R.length = 1 := by have := congrArg List.length h2; simpa using this
 rw [this] at h1
 exact ⟨h5, A, c, h1⟩
theorem alive_of (w : World) (E : Env w) (RX : ∀ {W : World} {lo : Option Nat} {xs : List Value}, At W lo aliveX xs → Env W → Calls Tryz.prog 13 #[.agg xs.toArray] W fun e w' => e = .returned (.int .i64 aliveX.rightE) ∧ Below W.heap.size W w') (PX : ∀ {W0 : World} {lo : Option Nat} {xs : List Value}, At W0 lo aliveX xs → ∀ (W : World) (base g : Nat) (v : Value) (l : List UInt8), W0.heap.size ≤ base → base ≤ g → Below W0.heap.size W0 W → Wr W base g v l → base ≤ W.heap.size → l.length + aliveX.putB.length + 64 ≤ 140737488355328 →
 Calls Tryz.prog 23 #[.pointer (some ⟨g, 0, none⟩), .agg xs.toArray] W fun e w' => e = .returned (.tuple #[]) ∧ ∃ v', Wrote base g v v' l aliveX.putB W w') : Calls Tryz.prog 9 #[] w fun e w' => e = .returned (.bool true) ∧ Below w.heap.size w w' := by
 have HE1 := Hi (fun W (h : Below w.heap.size w W) => E.below h)
 have henc : Calls Tryz.prog 21 #[.agg #[.int .i32 1, .int .i32 2, .string ⟨#[47, 97]⟩, .slice none 0 0, .slice none 0 0, .int .i32 0, .int .i32 (-1), .bool false, .int .i64 0, .int .i64 0, .int .i64 0, .int .i64 0, .slice none 0 0, .slice none 0 0, .slice none 0 0, .slice none 0 0, .slice none 0 0, .int .i32 0, .slice none 0 0, .slice none 0 0]] w (Encoded w 1 aliveX) := encode_of 1 (alive_at w) alive_bulk (fun W hW => RX ((alive_at w).later hW) (E.below hW)) (PX (alive_at w))
 have HENC := Hi (henc.mono fun e w' h => enc_alive h)
 have HLEN := Hi alive_len
 have HCL : Hid ((encB 1 aliveX ++ [0]).length = 19) := by unfold Hid; rw [zG, alive_len]; rfl
 obtain ⟨i0, hi0, hz0, hzi1, hzi2⟩ := info_parts u8_info
 have HBCN : Hid (bcells (encB 1 aliveX) ++ [.int .u8 0] = bcells (encB 1 aliveX ++ [0])) := by unfold Hid bcells; rw [List.map_append]; rfl
 have HRX : Hid (∀ {W : World} {lo : Option Nat} {xs : List Value}, At W lo aliveX xs → Env W → Calls Tryz.prog 13 #[.agg xs.toArray] W fun e w' => e = .returned (.int .i64 aliveX.rightE) ∧ Below W.heap.size W w') := RX
 clear E henc RX PX
 go_enter Tryz.func9, Tryz.ntmps9
 go_wp2_with (first
  | (go_at_call 21
     refine HENC.out.mono ?_
     rintro e w2 ⟨hb2, base, A, c, hbase, rfl, ho⟩
     have HB2 := Hi hb2
     have HO2 := Hi ho
     have HBS := Hi hbase
     have HD := Hi (opDecode_of c 18 A (encB 1 aliveX) w2 alive_typesA (Reads.of_own ho) (own_capO ho) (by omega) (fun h => (own_nil ho h).2) (HE1.out _ hb2))
     clear hb2 ho hbase)
  | (go_at_call 27
     refine HD.out.mono ?_
     rintro e w3 hd
     obtain ⟨hb3, cs, rfl, hat⟩ := dec_alive1 hd
     have HB3 := hidT HB2 hb3
     have hz23 := hb3.size
     have HO3 := Hi (own_below HO2.out hb3)
     have HAT := Hi hat
     obtain ⟨cq, hcq⟩ : ∃ x, x = (Value.int .i32 1 :: cs).toArray := ⟨_, rfl⟩
     rw [← hcq]
     have HCQ := Hi hcq
     have hsz : 20 = cq.size := (by rw [hcq, zO, zM, hat.len])
     have HSZ := Hi hsz
     have HZE : Hid (((Tryz.prog.info? 44).bind (·.zero)).map (·.cells.size) = some cq.size) := (by unfold Hid; rw [← hsz]; kernel_rfl)
     have HIS : Hid ((Tryz.prog.info? 44).map (·.size) = some cq.size) := (by unfold Hid; rw [← hsz]; exact req_size)
     have HON : Hid (cq.all (·.oneCell') = true) := (by
      unfold Hid
      have := hat.one
      rw [zQ] at this ⊢
      intro v hv
      rw [hcq] at hv
      rcases zH.1 (by simpa using hv) with rfl | hv
      · rfl
      · exact this v (by simpa using hv))
     have HI19 : Hid ((Tryz.prog.info? 29).map (·.size) = some cs.length) := (by unfold Hid; rw [hat.len]; exact isz_29)
     clear hd hb3 hat hcq hsz HD)
  | (with_reducible refine wpAt 3 ?_
     refine wpList_newrow rfl rfl 44 rfl 3 rfl (.tmp 18) rfl rfl cq (fun _ => rfl) (show 3 < 76 by decide) HZE.out HIS.out HON.out ?_
     obtain ⟨w4, hnew⟩ : ∃ x, w3.alloc (.cells cq 44) = x := ⟨_, rfl⟩
     rw [hnew]
     have hbn := newB hnew
     have HB4 := hidT HB3 hbn
     have HB34 := Hi hbn
     have HR4 : Hid (ReqRow w4 w3.heap.size 1 aliveX cs) := ReqRow.mk' (by rw [← hnew, HCQ.out]; exact Blk.new _ _ _) HAT.out
     have HOL : Hid (w4.ownsRow w.heap.size 5 1 (.slice A 18 c) 18 (bcells (encB 1 aliveX))) := own_lowO (own_below HO3.out hbn) HBS.out
     have hz4 : w3.heap.size ≤ w4.heap.size := hbn.size
     have hz40 := HB4.out.size
     clear hnew hbn)
  | (with_reducible refine wpAt 24 ?_; refine Hid.out ?_))
 refine Hi ?_
 refine wpList_append_any _ rfl (.tmp 22) (.tmp 23) _ rfl w.heap.size 5 i0 _ 1 1 zU22 hi0 hz0 hzi1 hzi2 rfl (by decide) (.slice A 18 c) 18 (bcells (encB 1 aliveX)) rfl (World.ownsRow.alloc HOL.out _) (w4.heap.size + 1) (some ⟨w4.heap.size, 0, none⟩) 1 1 [.int .u8 0] rfl (reads_litO w4 5 _ [.int .u8 0]) (fun u hu => by simp at hu; subst hu; rfl) (by unfold maxLen; omega) (by omega) (by simp; omega) ?_
 intro v6 w6 hown6 hg6 hat6
 obtain ⟨A6, c6, rfl⟩ := slice_form hown6
 rw [HBCN.out] at hown6
 have hb5 : Below w4.heap.size w4 (w4.alloc (.cells #[.int .u8 0] 5)) := zT.alloc zR _
 have HB6 : Hid (Below w.heap.size w w6) := (HB4.out.trans (hb5.mono HB4.out.size)).grown hg6 (by simp; omega) (fun k hk => (HOL.out.lt k hk).1)
 have HR6 : Hid (ReqRow w6 w3.heap.size 1 aliveX cs) := ReqRow.mk' ((HR4.out.blk.below hb5 HR4.out.blk.lt).grown hg6 (fun h => by have := HO2.out.lt _ h.symm; omega)) HAT.out
 have HAT6 : Hid (At w6 (some w2.heap.size) aliveX cs) := ((HAT.out.later HB34.out).later hb5).window rfl (fun k hk hl => hg6.block k hl (fun h => by have := HO2.out.lt _ h.symm; omega))
 have HD := Hi (opDecode_of c6 19 A6 (encB 1 aliveX ++ [0]) w6 alive_typesB (Reads.of_own hown6) (own_capO hown6) (by omega) (fun h => (own_nil hown6 h).2) (HE1.out _ HB6.out))
 clear hown6 hg6 hat6 hb5
 go_wp2_with (first
  | (go_at_call 27
     refine HD.out.mono ?_
     rintro e w7 hd
     obtain ⟨hb7, rfl⟩ := dec_alive2 hd
     have HB7 := hidT HB6 hb7
     have HR7 := Hi (ReqRow.mk' (HR6.out.blk.below hb7 HR6.out.blk.lt) HAT.out)
     have HAT7 := Hi (HAT6.out.later hb7)
     clear hd hb7)
  | (with_reducible refine wpAt 6 ?_
     refine wpList_newrow rfl rfl 44 rfl 6 rfl (.tmp 26) rfl rfl (Oq31R1) (fun _ => rfl) (show 6 < 76 by decide) (by kernel_rfl) req_size (by simp [Value.oneCell']) ?_
     obtain ⟨w8, hnew⟩ : ∃ x, w7.alloc (.cells (Oq31R1) 44) = x := ⟨_, rfl⟩
     rw [hnew]
     have hbn := newB hnew
     have HB8 := hidT HB7 hbn
     have HR8 := Hi (ReqRow.mk' (HR7.out.blk.below hbn HR7.out.blk.lt) HAT.out)
     have hc1 := HR8.out.c0
     have hc2 : w8.cell? ⟨w3.heap.size, 2, none⟩ = some (.string ⟨#[47, 97]⟩) := HR8.out.cp
     have hc3 : w8.cell? ⟨w3.heap.size, 6, none⟩ = some (.int .i32 (-1)) := HR8.out.cv
     have HFL := Hi (flatten_of (HAT7.out.later hbn) alive_nodes fun W hW => HRX.out ((HAT7.out.later hbn).later hW) ((HE1.out _ HB8.out).below hW))
     clear hnew hbn)
  | (refine wpList_load_at (by rfl) 29 (.tmp 70) rfl ⟨w3.heap.size, 1, none⟩ rfl cs _ HR8.out.row zU29 rfl HI19.out ?_)
  | (go_at_call 19
     refine HFL.out.mono ?_
     rintro e w9 hl
     obtain ⟨hb9, A9, c9, rfl⟩ := list_alive hl
     have HB9 := hidT HB8 hb9
     clear hl hb9))
 go_ret
 exact ⟨rfl, HB9.out⟩
theorem alive_any (w : World) (E : Env w) : Calls Tryz.prog 9 #[] w fun e w' => e = .returned (.bool true) ∧ Below w.heap.size w w' := alive_of w E (fun h E => right_any h E alive_bulk) fun h => opPut_any h

theorem app0 {W w' : World} {lo : Option Nat} {b : Nat} {e : TypeId} {size bytes len : Nat} {s : Sl} {xs : List Value} {v : Value} (h : SlAt W lo e size bytes s len xs) (ho : w'.ownsRow b e size v (0 + s.n) ([] ++ xs)) : ∃ s' : Sl, v = .slice s'.A s'.n s'.c ∧ SlAt w' (some b) e size bytes s' len xs := by
 rw [Nat.zero_add, List.nil_append] at ho
 obtain ⟨A', c', rfl⟩ := slice_form ho
 exact ⟨⟨A', s.n, c'⟩, rfl, by rw [h.len]; exact SlAt.of_own ho h.reach⟩
theorem wpList_load1 {P : Program} {ops : Array Oper} {rest : List Oper} {o : Oper} {a : Act} {w : World} {Q : Exit → Act → World → Prop} (hgd : o.guard = none) (ty : TypeId) (x : Operand) (ho : o.op = .load ty x)
 (ad : Addr) (hx : a.eval x = .pointer (some ad)) {v : Value} (hc : w.cell? ad = some v) {d : TypeDesc} (hu : P.underlying ty = some d) (hd : (match d with | .struct _ | .array _ _ => false | _ => true) = true)
 (h : wpList P ops Q rest (a.put o.dst v) w) : wpList P ops Q (o :: rest) a w := wpList_step fun K hK => op_u hgd (r_load ty x ho hx hc hu hd) (hK _ _ h)
theorem FlatSt.lit (W : World) : FlatSt W.heap.size (.slice (some ⟨W.heap.size, 0, none⟩) 0 0) [] (W.alloc (.cells #[] 29)) :=
 ⟨World.ownsRow_made W #[] 0 zR (by decide) rfl, by simp, fun _ hr => by cases hr⟩

theorem cloneR_walk {lo : Option Nat} (f : OpF) (d a k0 k1 k2 k3 k4 i s : Sl) (Q : List (OpC × List Value)) (w : World) (ok : f.Ok) (h : FAt w lo f d a k0 k1 k2 k3 k4 i) (hs : SlAt w lo 29 19 296 s Q.length (Q.flatMap Prod.snd)) (hQ : ∀ q ∈ Q, At w lo q.1 q.2)
 (IH : ∀ q ∈ Q, ∀ W, Below w.heap.size w W → Calls Tryz.prog 10 #[.agg q.2.toArray] W (Cloned W q.1)) (cs : Array Value) (hcs : cs = (f.row d a k0 k1 k2 k3 k4 i s).toArray) :
 Calls Tryz.prog 10 #[.agg cs] w (Cloned w (.mk f (Q.map Prod.fst))) := by
 obtain ⟨sA, N, sc⟩ := s
 obtain ⟨w1, hw1⟩ := xa w cs 29
 have HW1 := Hi hw1.symm
 have hz1 : w1.heap.size = w.heap.size + 1 := by rw [← hw1]; simp
 have HCS : Hid (cs = (f.rowL d a [k0, k1, k2, k3, k4] i ⟨sA, N, sc⟩).toArray) := hcs
 have HD := Hi (fun W (hW : Below w.heap.size w W) => h.d.later hW)
 have HA := Hi (fun W (hW : Below w.heap.size w W) => h.a.later hW)
 have HI := Hi (fun W (hW : Below w.heap.size w W) => h.i.later hW)
 have HSL := Hi (fun W (hW : Below w.heap.size w W) => hs.later hW)
 have HKS : Hid (∀ j (hj : j < 5) W, Below w.heap.size w W → SlAt W lo 9 1 16 ([k0, k1, k2, k3, k4][j]'hj) (f.lists[j]'hj).length (strCells (f.lists[j]'hj))) := fun j hj W hW => by
  rcases (by omega : j = 0 ∨ j = 1 ∨ j = 2 ∨ j = 3 ∨ j = 4) with rfl | rfl | rfl | rfl | rfl
  · exact h.k0.later hW
  · exact h.k1.later hW
  · exact h.k2.later hW
  · exact h.k3.later hW
  · exact h.k4.later hW
 have HQ := Hi hQ
 have HIH := Hi IH
 have HOK := Hi ok
 have HSQ : Hid (Q.length = N) := hs.len
 have HREA : Hid (N * 296 ≤ reachBytes) := hs.reach
 have hrea : N * 296 ≤ 140737488355328 := hs.reach'
 clear hcs h hs hQ IH ok
 obtain ⟨ib, hib, hzb, hsb, hyb⟩ := info_parts u8O_info
 obtain ⟨ia, hia, hza, hsa, hya⟩ := info_parts acl_info
 obtain ⟨ii, hii, hzi, hsi, hyi⟩ := info_parts id_info
 obtain ⟨ik, hik, hzk, hsk, hyk⟩ := info_parts strO_info
 obtain ⟨io, hio, hzo, hso, hyo⟩ := info_parts op_info
 go_enter Tryz.func10, Tryz.ntmps10
 go_wp2_with (first
  | (refine wpList_new rfl 29 rfl zer_op ?_
     intro old hold
     obtain ⟨w2, hw2⟩ := xa w1 old 29
     rw [hw2]
     have HK2 : Hid (KSt w f d a [k0, k1, k2, k3, k4] i ⟨sA, N, sc⟩ w2) := (by unfold Hid; rw [← hw2, ← hw1]; exact KSt.start HCS.out rfl hold)
     clear hw2 hold)
  | (with_reducible refine wpAt 7 ?_
     obtain ⟨u3, hu⟩ : ∃ x, w2.alloc (.cells #[] 5) = x := ⟨_, rfl⟩
     rw [hu]
     have HBu := Hi (newB hu)
     have HOu : Hid (u3.ownsRow w2.heap.size 5 1 (.slice (some ⟨w2.heap.size, 0, none⟩) 0 0) 0 []) := (by unfold Hid; rw [← hu]; exact World.ownsRow_made w2 #[] 0 zR (by decide) rfl)
     have HSu := Hi (HD.out _ (HK2.out.below.trans (HBu.out.mono HK2.out.below.size)))
     have qu := (HK2.out.later HBu.out).c2
     clear hu)
  | (with_reducible refine wpAt 9 ?_
     refine wpList_append_any _ rfl (.tmp 6) (.tmp 8) _ rfl w2.heap.size 5 ib _ 1 1 zU22 hib hzb hsb hyb rfl (by decide) (.slice (some ⟨w2.heap.size, 0, none⟩) 0 0) 0 [] rfl HOu.out u3.heap.size d.A d.n d.c (bcells f.l) rfl HSu.out.reads (bcells_one _) (by have := HSu.out.le; have := HSu.out.cap; omega) (by rw [Nat.zero_add]; exact HSu.out.reach') HBu.out.size ?_
     intro v w3 ho hg hat
     obtain ⟨s1, rfl, hs'⟩ := app0 HSu.out ho
     have hb := HBu.out.grown hg HBu.out.size (fun k hk => by simp [Value.ownBlock] at hk; omega)
     have HN3 := Hi (hs'.lo HK2.out.size)
     have HK3 := Hi (HK2.out.later hb)
     clear hb hs' ho hg hat qu HBu HOu HSu)
  | (with_reducible refine wpSt 10 ?_
     refine wpList_store_mid rfl 22 (.tmp 10) (.tmp 9) rfl w.heap.size (2) (.slice s1.A s1.n s1.c) rfl rfl HK3.out.blk (news := [.slice s1.A s1.n s1.c]) rfl isz_22 (by rw [HK3.out.asize]; exact (by decide : 2 + 1 ≤ 19)) (by simp [Value.oneCell']) ?_
     intro wn4 cn hBn hxn hgn hzn
     have HK4 : Hid (KSt w f s1 a [k0, k1, k2, k3, k4] i ⟨sA, N, sc⟩ wn4) := HK3.out.put hBn hgn (hxn.trans rowL_d) HK3.out.len
     have HS1_4 := Hi (HN3.out.grown hgn (by omega))
     clear hBn hxn hgn hzn)
  | (with_reducible refine wpAt 12 ?_
     obtain ⟨u5, hu⟩ : ∃ x, wn4.alloc (.cells #[] 104) = x := ⟨_, rfl⟩
     rw [hu]
     have HBu := Hi (newB hu)
     have HOu : Hid (u5.ownsRow wn4.heap.size 104 3 (.slice (some ⟨wn4.heap.size, 0, none⟩) 0 0) 0 []) := (by unfold Hid; rw [← hu]; exact World.ownsRow_made wn4 #[] 0 zR (by decide) rfl)
     have HSu := Hi (HA.out _ (HK4.out.below.trans (HBu.out.mono HK4.out.below.size)))
     have qu := (HK4.out.later HBu.out).c3
     clear hu)
  | (with_reducible refine wpAt 14 ?_
     refine wpList_append_any _ rfl (.tmp 11) (.tmp 13) _ rfl wn4.heap.size 104 ia _ 3 40 zU23 hia hza hsa hya rfl (by decide) (.slice (some ⟨wn4.heap.size, 0, none⟩) 0 0) 0 [] rfl HOu.out u5.heap.size a.A a.n a.c (aclCells f.L) rfl HSu.out.reads (aclCells_one _) (by have := HSu.out.le; have := HSu.out.cap; omega) (by rw [Nat.zero_add]; exact HSu.out.reach') HBu.out.size ?_
     intro v w5 ho hg hat
     obtain ⟨s2, rfl, hs'⟩ := app0 HSu.out ho
     have hb := HBu.out.grown hg HBu.out.size (fun k hk => by simp [Value.ownBlock] at hk; omega)
     have HN5 := Hi (hs'.lo HK4.out.size)
     have HK5 := Hi (HK4.out.later hb)
     have HS1_5 := Hi (HS1_4.out.later hb)
     clear hb hs' ho hg hat qu HBu HOu HSu)
  | (with_reducible refine wpSt 15 ?_
     refine wpList_store_mid rfl 23 (.tmp 15) (.tmp 14) rfl w.heap.size (3) (.slice s2.A s2.n s2.c) rfl rfl HK5.out.blk (news := [.slice s2.A s2.n s2.c]) rfl isz_23 (by rw [HK5.out.asize]; exact (by decide : 3 + 1 ≤ 19)) (by simp [Value.oneCell']) ?_
     intro wn6 cn hBn hxn hgn hzn
     have HK6 : Hid (KSt w f s1 s2 [k0, k1, k2, k3, k4] i ⟨sA, N, sc⟩ wn6) := HK5.out.put hBn hgn (hxn.trans rowL_a) HK5.out.len
     have HS1_6 := Hi (HS1_5.out.grown hgn (by omega))
     have HS2_6 := Hi (HN5.out.grown hgn (by omega))
     clear hBn hxn hgn hzn)
  | (with_reducible refine wpAt 17 ?_
     obtain ⟨u7, hu⟩ : ∃ x, wn6.alloc (.cells #[] 102) = x := ⟨_, rfl⟩
     rw [hu]
     have HBu := Hi (newB hu)
     have HOu : Hid (u7.ownsRow wn6.heap.size 102 2 (.slice (some ⟨wn6.heap.size, 0, none⟩) 0 0) 0 []) := (by unfold Hid; rw [← hu]; exact World.ownsRow_made wn6 #[] 0 zR (by decide) rfl)
     have HSu := Hi (HI.out _ (HK6.out.below.trans (HBu.out.mono HK6.out.below.size)))
     have qu := (HK6.out.later HBu.out).c17
     clear hu)
  | (with_reducible refine wpAt 19 ?_
     refine wpList_append_any _ rfl (.tmp 16) (.tmp 18) _ rfl wn6.heap.size 102 ii _ 2 32 zU26 hii hzi hsi hyi rfl (by decide) (.slice (some ⟨wn6.heap.size, 0, none⟩) 0 0) 0 [] rfl HOu.out u7.heap.size i.A i.n i.c (idCells f.I) rfl HSu.out.reads (idCells_one _) (by have := HSu.out.le; have := HSu.out.cap; omega) (by rw [Nat.zero_add]; exact HSu.out.reach') HBu.out.size ?_
     intro v w7 ho hg hat
     obtain ⟨s3, rfl, hs'⟩ := app0 HSu.out ho
     have hb := HBu.out.grown hg HBu.out.size (fun k hk => by simp [Value.ownBlock] at hk; omega)
     have HN7 := Hi (hs'.lo HK6.out.size)
     have HK7 := Hi (HK6.out.later hb)
     have HS1_7 := Hi (HS1_6.out.later hb)
     have HS2_7 := Hi (HS2_6.out.later hb)
     clear hb hs' ho hg hat qu HBu HOu HSu)
  | (with_reducible refine wpSt 20 ?_
     refine wpList_store_mid rfl 26 (.tmp 20) (.tmp 19) rfl w.heap.size (17) (.slice s3.A s3.n s3.c) rfl rfl HK7.out.blk (news := [.slice s3.A s3.n s3.c]) rfl isz_26 (by rw [HK7.out.asize]; exact (by decide : 17 + 1 ≤ 19)) (by simp [Value.oneCell']) ?_
     intro wn8 cn hBn hxn hgn hzn
     have HK8 : Hid (KSt w f s1 s2 [k0, k1, k2, k3, k4] s3 ⟨sA, N, sc⟩ wn8) := HK7.out.put hBn hgn (hxn.trans (rowL_i HK7.out.len)) HK7.out.len
     have HS1_8 := Hi (HS1_7.out.grown hgn (by omega))
     have HS2_8 := Hi (HS2_7.out.grown hgn (by omega))
     have HS3_8 := Hi (HN7.out.grown hgn (by omega))
     clear hBn hxn hgn hzn))
 clear HK2 HK3 HK4 HK5 HK6 HK7 HD HA HI HS1_4 HS1_5 HS1_6 HS1_7 HS2_6 HS2_7 HN3 HN5 HN7
 go_loopw [3] (fun v3 wr => ∃ (j : Nat) (ks : List Sl), j ≤ 5 ∧ v3 = .int .i64 (j : Int) ∧ Hid (KSt w f s1 s2 ks s3 ⟨sA, N, sc⟩ wr) ∧ Hid (KLs w f [k0, k1, k2, k3, k4] ks j wr) ∧ Hid (SlAt wr (some (w.heap.size + 2)) 5 1 1 s1 f.l.length (bcells f.l)) ∧ Hid (SlAt wr (some (w.heap.size + 2)) 104 3 40 s2 f.L.length (aclCells f.L)) ∧ Hid (SlAt wr (some (w.heap.size + 2)) 102 2 32 s3 f.I.length (idCells f.I))) (fun v3 _ => 5 - (intOf v3).toNat)
 case atStart => exact ⟨0, [k0, k1, k2, k3, k4], by omega, rfl, HK8.out, ⟨fun z _ _ hz => absurd hz (by omega), fun z _ => rfl⟩, HS1_8.out, HS2_8.out, HS3_8.out⟩
 case round =>
  clear HK8 HS1_8 HS2_8 HS3_8
  obtain ⟨j, ks, hj, rfl, HK9, HL9, HS1_9, HS2_9, HS3_9⟩ := hrel
  by_cases hlt : j < 5
  · have hjl : j < ks.length := by rw [HK9.out.len]; exact hlt
    obtain ⟨kj, hkj⟩ : ∃ k, k = ([k0, k1, k2, k3, k4][j]'hlt) := ⟨_, rfl⟩
    have hkk : ks[j] = kj := by
     have := HL9.out.2 j zR
     rw [List.getElem?_eq_getElem hjl, List.getElem?_eq_getElem hlt, ← hkj] at this
     injection this
    have HCK : Hid (∀ {u}, KSt w f s1 s2 ks s3 ⟨sA, N, sc⟩ u → u.cell? ⟨w.heap.size, 11 + j, none⟩ = some (.slice kj.A kj.n kj.c)) := fun h => (h.ck hjl).trans (by rw [hkk]; rfl)
    have HKJ : Hid (∀ W, Below w.heap.size w W → SlAt W lo 9 1 16 kj (f.lists[j]'hlt).length (strCells (f.lists[j]'hlt))) := by
     unfold Hid
     rw [hkj]
     exact HKS.out j hlt
    clear hkj hkk hjl
    go_wp2_with (first
     | (with_reducible refine wpAt 28 ?_
        obtain ⟨u9, hu⟩ : ∃ x, wr.alloc (.cells #[] 9) = x := ⟨_, rfl⟩
        rw [hu]
        have HBu := Hi (newB hu)
        have HOu : Hid (u9.ownsRow wr.heap.size 9 1 (.slice (some ⟨wr.heap.size, 0, none⟩) 0 0) 0 []) := (by unfold Hid; rw [← hu]; exact World.ownsRow_made wr #[] 0 zR (by decide) rfl)
        have HSu := Hi (HKJ.out _ (HK9.out.below.trans (HBu.out.mono HK9.out.below.size)))
        have qu := HCK.out (HK9.out.later HBu.out)
        clear hu)
     | (with_reducible refine wpAt 30 ?_
        refine wpList_load1 rfl 24 (.tmp 29) rfl ⟨w.heap.size, 11 + j, none⟩ rfl qu zU24 rfl ?_)
     | (with_reducible refine wpAt 31 ?_
        refine wpList_append_any _ rfl (.tmp 26) (.tmp 30) _ rfl wr.heap.size 9 ik _ 1 16 zU24 hik hzk hsk hyk rfl (by decide) (.slice (some ⟨wr.heap.size, 0, none⟩) 0 0) 0 [] rfl HOu.out u9.heap.size kj.A kj.n kj.c (strCells (f.lists[j]'hlt)) rfl HSu.out.reads (strCells_one _) (by have := HSu.out.le; have := HSu.out.cap; omega) (by rw [Nat.zero_add]; exact HSu.out.reach') HBu.out.size ?_
        intro v w9 ho hg hat
        obtain ⟨k', rfl, hs'⟩ := app0 HSu.out ho
        have hb := HBu.out.grown hg HBu.out.size (fun k hk => by simp [Value.ownBlock] at hk; omega)
        have HN10 := Hi (hs'.lo HK9.out.size)
        have HK10 := Hi (HK9.out.later hb)
        have HL10 := Hi (HL9.out.later hb)
        have HS1_10 := Hi (HS1_9.out.later hb)
        have HS2_10 := Hi (HS2_9.out.later hb)
        have HS3_10 := Hi (HS3_9.out.later hb)
        clear hb hs' ho hg hat qu HBu HOu HSu)
     | (with_reducible refine wpSt 33 ?_
        refine wpList_store_mid rfl 24 (.tmp 33) (.tmp 31) rfl w.heap.size (11 + j) (.slice k'.A k'.n k'.c) rfl rfl HK10.out.blk (news := [.slice k'.A k'.n k'.c]) rfl isz_24 (by rw [HK10.out.asize]; show 11 + j + 1 ≤ 19; omega) (by simp [Value.oneCell']) ?_
        intro wn11 cn hBn hxn hgn hzn
        have HK11 : Hid (KSt w f s1 s2 (ks.set j k') s3 ⟨sA, N, sc⟩ wn11) := HK10.out.put hBn hgn (hxn.trans (rowL_k HK10.out.len hlt)) (by rw [List.length_set]; exact HK10.out.len)
        have HS1_11 := Hi (HS1_10.out.grown hgn (by omega))
        have HS2_11 := Hi (HS2_10.out.grown hgn (by omega))
        have HS3_11 := Hi (HS3_10.out.grown hgn (by omega))
        have HL11 : Hid (KLs w f [k0, k1, k2, k3, k4] (ks.set j k') (j + 1) wn11) := (HL10.out.grown hgn (by omega)).set hlt (HN10.out.grown hgn (by omega))
        clear hBn hxn hgn hzn))
    go_roundw
    case rel => exact ⟨j + 1, ks.set j k', by omega, by go_num, HK11.out, HL11.out, HS1_11.out, HS2_11.out, HS3_11.out⟩
    case measure => simp [intOf]; omega
  · obtain rfl : j = 5 := by omega
    obtain ⟨m0, m1, m2, m3, m4, hks⟩ := list5 HK9.out.len
    subst hks
    clear hlt hj HKS
    obtain ⟨u8, rfl⟩ : ∃ v, v = wr := ⟨_, rfl⟩
    rw [show ((5 : Nat) : Int) = 5 from rfl]
    go_wp2
    go_loopw [4, 5] (fun v4 v5 wr => ∃ (j : Nat) (A4 : Option Addr) (c4 : Nat) (R : List (OpC × List Value)), j ≤ N ∧ v4 = .slice A4 j c4 ∧ v5 = .int .i64 (j : Int) ∧ Hid (R.length = j) ∧ Hid (R.map Prod.fst = (Q.take j).map Prod.fst) ∧ Hid (FlatSt u8.heap.size (.slice A4 j c4) R wr) ∧ Hid (Below u8.heap.size u8 wr)) (fun _ v5 _ => N - (intOf v5).toNat)
    case atStart => exact ⟨0, _, _, [], by omega, rfl, rfl, rfl, rfl, FlatSt.lit u8, zT.alloc zR _⟩
    case round =>
     obtain ⟨j, A4, c4, R, hj, rfl, rfl, HRL, HRM, HF, HB⟩ := hrel
     have HKw := Hi (HK9.out.later HB.out)
     have q18 := HKw.out.c18
     dsimp only at q18
     by_cases hlt : j < N
     · have hjQ : j < Q.length := by rw [HSQ.out]; exact hlt
       have hrd := (HSL.out _ HKw.out.below).reads
       obtain ⟨ad, hA, hrow⟩ := rowAt hrd HQ.out hjQ HSQ.out
       dsimp only at hA
       subst hA
       have hih := HIH.out (Q[j]) (List.getElem_mem _)
       have hmx : (Q.take (j + 1)).map Prod.fst = (Q.take j).map Prod.fst ++ [(Q[j]).1] := by
        rw [List.take_succ_eq_append_getElem hjQ, List.map_append]; rfl
       obtain ⟨⟨x, xc⟩, hx⟩ : ∃ x, x = Q[j] := ⟨_, rfl⟩
       rw [← hx] at hrow hih hmx
       dsimp only at hrow hih hmx
       have HMX := Hi hmx
       have HROW := Hi hrow
       have HIX := Hi hih
       have HOL : Hid (∀ g, (Value.slice A4 j c4).ownBlock = some g → g < wr.heap.size) := fun g hg => HF.out.lt hg
       clear hx hrow hih hmx hjQ hrd
       go_wp2_with (first
        | (refine wpList_load_at (by rfl) 29 (.tmp 46) rfl (ad.add (j * 19)) rfl xc _ HROW.out.cells zU29 rfl HROW.out.info ?_)
        | (go_at_call 10
           refine (HIX.out _ HKw.out.below).mono ?_
           rintro e w5 ⟨rc, rfl, hrc, hb5⟩
           have HRC := Hi hrc
           have HF5 := Hi (HF.out.later hb5)
           have HB5 := Hi (HB.out.trans (hb5.mono HF.out.bs))
           have HRS : Hid ((Value.agg rc.toArray).cells.size = 19) := (by unfold Hid; show rc.toArray.size = 19; rw [zO, hrc.len])
           clear hb5 hrc)
        | (refine wpList_build1 rfl 27 29 (.tmp 48) rfl (.agg rc.toArray) rfl 19 zU27 isz_29 zer_op (by decide) HRS.out ?_
           obtain ⟨w6, hw6⟩ := xa w5 (rc.toArray) 29
           have hc6 : (Value.agg rc.toArray).cells = rc.toArray := rfl
           rw [hc6, hw6]
           have hb6 := newB hw6
           have hn6 := newK hw6
           have HF6 := Hi (HF5.out.later hb6)
           have HB6 := Hi (HB5.out.trans (hb6.mono HF5.out.bs))
           have HW6 : Hid (Win w6 wr.heap.size w6.heap.size x rc) := Win.new (HRC.out.later hb6)
           have HR6 : Hid (Reads w6 w6.heap.size 19 (some ⟨w5.heap.size, 0, none⟩) 1 rc) := ⟨(by rw [HRC.out.len]), fun _ => ⟨⟨w5.heap.size, 0, none⟩, rfl, hn6.lt, fun j u hj => (by rw [zN, Nat.zero_add, hn6.cell]; simpa using hj)⟩⟩
           have HO6 : Hid (∀ u ∈ rc, u.oneCell' = true) := fun v hv => (by
            have := HRC.out.one
            rw [zQ] at this
            exact this v (by simpa using hv))
           have HOW : Hid (w6.ownsRow u8.heap.size 29 19 (.slice A4 j c4) j (R.flatMap Prod.snd)) := (by unfold Hid; have := HF6.out.own; rwa [HRL.out] at this)
           clear hw6 hc6 hb6 hn6)
        | (with_reducible refine wpAt 50 ?_
           refine wpList_append_any _ rfl (.tmp 42) (.tmp 49) _ rfl u8.heap.size 29 io _ 19 296 zU27 hio hzo hso hyo rfl (by decide) (.slice A4 j c4) j (R.flatMap Prod.snd) rfl HOW.out w6.heap.size (some ⟨w5.heap.size, 0, none⟩) 1 1 rc rfl HR6.out HO6.out (by unfold maxLen; omega) (by omega) HF6.out.bs ?_
           intro v7 w7 ho hg hat
           obtain ⟨A7, c7, rfl⟩ := slice_form ho
           have HF7 : Hid (FlatSt u8.heap.size (.slice A7 (j + 1) c7) (R ++ [(x, rc)]) w7) := HF6.out.snoc (r := (x, rc)) HW6.out HF.out.bs HOL.out (by rw [HRL.out]; exact ho) hg hat
           have HB7 : Hid (Below u8.heap.size u8 w7) := HB6.out.grown hg HF6.out.bs (fun k hk => (HOW.out.lt k hk).1)
           clear ho hg hat))
       go_roundw
       case rel => exact ⟨j + 1, A7, c7, R ++ [(x, rc)], by omega, rfl, by go_num, by unfold Hid; rw [zG, HRL.out]; rfl, by unfold Hid; rw [List.map_append, HRM.out, HMX.out]; rfl, HF7.out, HB7.out⟩
       case measure => simp [intOf]; omega
     · obtain rfl : j = N := by omega
       have HRQ : Hid (R.map Prod.fst = Q.map Prod.fst) := by unfold Hid; rw [HRM.out, List.take_of_length_le (by rw [HSQ.out]; exact Nat.le_refl _)]
       clear hlt hj HRM HIH HSL
       obtain ⟨s4, hs4⟩ : ∃ s : Sl, s = ⟨A4, j, c4⟩ := ⟨_, rfl⟩
       have hv4 : Value.slice A4 j c4 = .slice s4.A s4.n s4.c := by rw [hs4]
       have hfa : SlAt wr (some u8.heap.size) 29 19 296 s4 R.length (R.flatMap Prod.snd) ∧ ∀ q ∈ R, At wr (some u8.heap.size) q.1 q.2 := by
        have h1 := HF.out
        obtain rfl := HRL.out
        rw [hs4]
        exact h1.at_ HREA.out
       have HN9 := Hi (hfa.1.lo HK9.out.size)
       have HE9 : Hid (∀ q ∈ R, At wr (some (w.heap.size + 2)) q.1 q.2) := fun q hq => (hfa.2 q hq).lo rfl HK9.out.size
       have HLw := Hi (HL9.out.later HB.out)
       have HS1w := Hi (HS1_9.out.later HB.out)
       have HS2w := Hi (HS2_9.out.later HB.out)
       have HS3w := Hi (HS3_9.out.later HB.out)
       rw [hv4]
       clear hv4 hs4 hfa HK9 HL9 HS1_9 HS2_9 HS3_9 HF HRL
       go_wp2_with (first
        | (with_reducible refine wpSt 52 ?_
           refine wpList_store_mid rfl 27 (.tmp 52) (.tmp 51) rfl w.heap.size 18 (.slice s4.A s4.n s4.c) rfl rfl HKw.out.blk (news := [.slice s4.A s4.n s4.c]) rfl isz_27 (by rw [HKw.out.asize]; exact (by decide : 18 + 1 ≤ 19)) (by simp [Value.oneCell']) ?_
           intro wn cn hBn hxn hgn hzn
           have HKt : Hid (KSt w f s1 s2 [m0, m1, m2, m3, m4] s3 s4 wn) := HKw.out.put hBn hgn (hxn.trans (rowL_s HKw.out.len)) HKw.out.len
           have HLt := Hi (HLw.out.grown hgn (by omega))
           have HS1t := Hi (HS1w.out.grown hgn (by omega))
           have HS2t := Hi (HS2w.out.grown hgn (by omega))
           have HS3t := Hi (HS3w.out.grown hgn (by omega))
           have HS4t := Hi (HN9.out.grown hgn (by omega))
           have HEt : Hid (∀ q ∈ R, At wn (some (w.heap.size + 2)) q.1 q.2) := fun q hq => (HE9.out q hq).grown rfl hgn (by omega)
           clear hBn hxn hgn hzn
           refine Hid.out ?_))
       have HAT : Hid (At wn (some (w.heap.size + 2)) (.mk f (Q.map Prod.fst)) (f.rowL s1 s2 [m0, m1, m2, m3, m4] s3 s4)) := clone_end HOK.out HLt.out HS1t.out HS2t.out HS3t.out HS4t.out HEt.out HRQ.out
       clear HKw HLw HS1w HS2w HS3w HS1t HS2t HS3t HS4t HEt HLt HN9 HE9
       obtain ⟨zr, hz1', hz2'⟩ := HKt.out.res
       have HZR := Hi hz1'
       have hzs : zr.size = 19 := hz2'
       have HINF : Hid ((Tryz.prog.info? 29).map (·.size) = some (f.rowL s1 s2 [m0, m1, m2, m3, m4] s3 s4).toArray.size) := by unfold Hid; rw [HKt.out.asize]; exact isz_29
       have HZS : Hid (zr.size = (f.rowL s1 s2 [m0, m1, m2, m3, m4] s3 s4).toArray.size) := by unfold Hid; rw [HKt.out.asize]; exact hzs
       clear hz1' hz2' hzs
       refine Hi ?_
       go_wp2_with (first
        | (refine wpList_load_row rfl 29 (.tmp 1) rfl w.heap.size rfl 29 _ _ _ HKt.out.blk zU29 rfl HINF.out ?_)
        | (refine wpList_store_row rfl 29 (.tmp 2) (.tmp 53) rfl (w.heap.size + 1) _ rfl rfl 29 _ HZR.out HINF.out HZS.out (rowL_one rfl) ?_
           generalize hww : World.setRow _ _ _ = wz
           have HGZ : Hid (wn.grownBy wz (some (w.heap.size + 1))) := (by unfold Hid; rw [← hww]; exact only_setRow' _ _ _)
           have HBZ : Hid (Blk wz (w.heap.size + 1) 29 (f.rowL s1 s2 [m0, m1, m2, m3, m4] s3 s4).toArray) := (by unfold Hid; rw [← hww]; exact cells_setRow HZR.out)
           clear hww))
       refine bodyPost_ret (results_cell_row rfl _ _ (w.heap.size + 1) 29 _ _ _ rfl HBZ.out zU29 rfl HINF.out) rfl ?_
       exact ⟨_, rfl, (HAT.out.grown rfl HGZ.out (by omega)).lo rfl (by omega), HKt.out.below.grown HGZ.out (by have := HKt.out.size; omega) (fun k hk => by injection hk with hk; omega)⟩
theorem refClone_any {w : World} {lo : Option Nat} {x : OpC} {cs : List Value} (h : At w lo x cs) : ∀ W, Below w.heap.size w W → Calls Tryz.prog 10 #[.agg cs.toArray] W (Cloned W x) := by
 induction h with
 | mk f d a k0 k1 k2 k3 k4 i s Q ok hd ha hk0 hk1 hk2 hk3 hk4 hi hs hQ ih =>
   intro W hW
   exact cloneR_walk f d a k0 k1 k2 k3 k4 i s Q W ok ⟨hd.later hW, ha.later hW, hk0.later hW, hk1.later hW, hk2.later hW, hk3.later hW, hk4.later hW, hi.later hW⟩ (hs.later hW) (fun q hq => (hQ q hq).later hW) (fun q hq W' hW' => ih q hq W' (hW.trans (hW'.mono hW.size))) _ rfl
end Go.Proofs.YtpjjnmdfgcfnmaaGreatDoor
