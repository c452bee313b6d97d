/- An operation with all that stands in it, written and read back; read and written: plain. -/
import Derived.Test.YtpjjnmdfgcfnmaaGreatDoorOb1
set_option linter.unusedVariables false
set_option linter.unusedSimpArgs false
namespace Go.Proofs.YtpjjnmdfgcfnmaaGreatDoor
open Go.RowKit

mutual
def OpC.good : OpC → Prop
  | .mk f S => f.Ok ∧ goodL S
def goodL : List OpC → Prop
  | [] => True
  | x :: r => x.good ∧ goodL r
end
theorem goodL_of : ∀ {S : List OpC}, (∀ x ∈ S, x.good) → goodL S
  | [], _ => by rw [goodL]; trivial
  | x :: r, h => by rw [goodL]; exact ⟨h x (by simp), goodL_of fun y hy => h y (by simp [hy])⟩
theorem At.good {w : World} {lo : Option Nat} {x : OpC} {cs : List Value} (h : At w lo x cs) : x.good := by
  induction h with
  | mk f d a k0 k1 k2 k3 k4 i s Q ok hd ha hk0 hk1 hk2 hk3 hk4 hi hs _ ih =>
    rw [OpC.good]
    refine ⟨ok, goodL_of fun x hx => ?_⟩
    obtain ⟨q, hq, rfl⟩ := List.mem_map.1 hx
    exact ih q hq
theorem kind_14 {t : Int} : kindN t = 2 ↔ t = 14 := by
  constructor
  · intro h
    have htt := kind_types (by rw [h]; decide)
    simp only [ownTypes, List.mem_cons, List.not_mem_nil, or_false] at htt
    rcases htt with rfl | rfl | rfl | rfl | rfl | rfl | rfl | rfl | rfl | rfl | rfl | rfl | rfl | rfl | rfl | rfl | rfl | rfl | rfl | rfl | rfl | rfl | rfl | rfl | rfl | rfl | rfl | rfl <;> first | rfl | exact absurd h (by decide)
  · rintro rfl
    decide
theorem may_22 {t : Int} (h : mayN t 22 = true) : t ≠ 14 := by
  rintro rfl
  exact absurd h (by decide)
theorem more_parts {k : Cnt} {t : Int} (h : t ≠ 14) : k.more t = ⟨k.parts + 1, k.multis, k.depth⟩ := by
  unfold Cnt.more
  rw [if_neg (fun e => h (kind_14.1 e))]
theorem more_multis {k : Cnt} : k.more 14 = ⟨k.parts, k.multis + 1, k.depth⟩ := by
  unfold Cnt.more
  rw [if_pos (by decide)]
def OpC.after (x : OpC) (k : Cnt) : Cnt := if x.f.t = 14 then ⟨k.parts + partsL x.S, k.multis + multisL x.S, k.depth⟩ else k
theorem after_more (x : OpC) (k : Cnt) : x.after (k.more x.f.t) = ⟨k.parts + x.parts, k.multis + x.multis, k.depth⟩ := by
  obtain ⟨f, S⟩ := x
  rw [OpC.parts, OpC.multis]
  unfold OpC.after OpC.f OpC.S
  dsimp only
  by_cases h : f.t = 14
  · rw [if_pos h, if_pos h, if_pos h, h, more_multis, Cnt.mk.injEq]
    exact ⟨rfl, by dsimp only; omega, rfl⟩
  · rw [if_neg h, if_neg h, if_neg h, more_parts h]
    rfl
theorem allL_cons {i : Int} {x : OpC} {r : List OpC} (h : allL i (x :: r) = 0) : mayN x.f.t i = true ∧ x.allE = 0 ∧ allL i r = 0 := by
  rw [allL] at h
  split at h
  · cases h
  rename_i h1
  split at h
  · exact absurd h ‹_›
  rename_i h2
  exact ⟨by simpa using h1, by simpa using h2, h⟩
theorem many_counts : ∀ {S : List OpC}, allL 22 S = 0 → partsL S = S.length ∧ multisL S = 0 ∧ depthL S = 0
  | [], _ => by rw [partsL, multisL, depthL]; exact ⟨rfl, rfl, rfl⟩
  | .mk f T :: r, h => by
    obtain ⟨h1, _, h3⟩ := allL_cons h
    obtain ⟨a, b, c⟩ := many_counts h3
    have ht : f.t ≠ 14 := may_22 h1
    rw [partsL, multisL, depthL, OpC.parts, OpC.multis, OpC.depth, if_neg ht, if_neg ht, if_neg ht, a, b, c, List.length_cons]
    omega
/-! what was read -/
theorem more_ok {k : Cnt} {t : Int} (hk : k.Ok) (h : (k.more t).big t = false) : (k.more t).Ok ∧ (k.more t).depth = k.depth ∧ (t = 14 → k.depth < 8) := by
  unfold Cnt.big at h
  simp only [Bool.or_eq_false_iff, decide_eq_false_iff_not, Bool.and_eq_false_iff, beq_eq_false_iff_ne] at h
  obtain ⟨⟨h1, h2⟩, h3⟩ := h
  have hd := hk.depth
  by_cases ht : t = 14
  · subst ht
    rw [more_multis] at h1 h2 h3 ⊢
    dsimp only at h1 h2 h3 ⊢
    rcases h3 with h3 | h3
    · exact absurd (by decide) h3
    · exact ⟨⟨by dsimp only; omega, by dsimp only; omega, hd⟩, rfl, fun _ => by omega⟩
  · rw [more_parts ht] at h1 h2 ⊢
    dsimp only at h1 h2 ⊢
    exact ⟨⟨by dsimp only; omega, by dsimp only; omega, hd⟩, rfl, fun h => absurd h ht⟩
def SubsFo (N : Nat) : Prop := ∀ (i : Int) (k : Cnt) (l : List UInt8) (p : Nat) (S : List OpC) (k' : Cnt) (q : Nat), gSubs N i k l p = .inl ((S, k'), q) → p ≤ l.length → k.Ok →
  Bk l p q (subsB S ++ hdrB (-1) true) ∧ allL i S = 0 ∧ k' = ⟨k.parts + partsL S, k.multis + multisL S, k.depth⟩ ∧ k'.Ok ∧ k.depth + depthL S ≤ 8
theorem op_forth {N : Nat} (HS : SubsFo N) {t : Int} {k : Cnt} {l : List UInt8} {p : Nat} {x : OpC} {k' : Cnt} {q : Nat} (h : opWith (gSubs N) t k l p = .inl ((x, k'), q)) (hp : p ≤ l.length) (hk : k.Ok) (h14 : t = 14 → k.depth < 8) :
    Bk l p q x.putB ∧ x.f.t = t ∧ x.allE = 0 ∧ k' = x.after k ∧ k'.Ok ∧ k.depth + x.depth ≤ 8 ∧ kindN t ≠ 5 := by
  unfold opWith at h
  split at h
  · cases h
  rename_i hkd
  have h0 : kindN t ≠ 0 := fun e => hkd (.inl e)
  have h5 : kindN t ≠ 5 := fun e => hkd (.inr e)
  have hd8 := hk.depth
  split at h
  · rename_i ht
    subst ht
    obtain ⟨⟨S, k1⟩, hs, he⟩ := map_inl h
    simp only [Prod.mk.injEq] at he
    obtain ⟨rfl, rfl⟩ := he
    obtain ⟨b1, b2, b3, b4, b5⟩ := HS 14 _ l p S k1 q hs hp ⟨hk.parts, hk.multis, h14 rfl⟩
    dsimp only at b3 b5
    subst b3
    refine ⟨?_, rfl, ?_, ?_, ⟨b4.parts, b4.multis, hd8⟩, ?_, by decide⟩
    · rw [OpC.putB, if_pos (show (zF 14).t = 14 ∨ (zF 14).t = 22 from .inl rfl)]
      exact b1
    · rw [OpC.allE, own_ok.2 (⟨by decide, Nat.zero_le _, Nat.zero_le _, Nat.zero_le _, Nat.zero_le _, fun K hK => by
        simp only [OpF.lists, zF, List.mem_cons, List.not_mem_nil, or_false, or_self] at hK
        subst hK
        exact Nat.zero_le _, fun s hs => by simp [OpF.texts, zF] at hs, fun h => absurd h (by decide), fun x hx => by simp [OpF.ids, zF] at hx, empty_valid, rfl, fun h => absurd (by decide) h⟩ : OwnOk (zF 14) S.length), if_neg (by simp)]
      exact b2
    · show _ = if (14 : Int) = 14 then (⟨k.parts + partsL S, k.multis + multisL S, k.depth⟩ : Cnt) else k
      rw [if_pos rfl]
      rfl
    · rw [OpC.depth, if_pos (show (zF 14).t = 14 from rfl)]
      omega
  rename_i ht14
  split at h
  · rename_i ht
    subst ht
    obtain ⟨⟨S, k1⟩, hs, he⟩ := map_inl h
    simp only [Prod.mk.injEq] at he
    obtain ⟨rfl, rfl⟩ := he
    obtain ⟨b1, b2, b3, b4, b5⟩ := HS 22 _ l p S k1 q hs hp ⟨Nat.zero_le _, Nat.zero_le _, Nat.zero_le _⟩
    dsimp only at b3 b5
    have hlen : S.length ≤ 1024 := by
      have := b4.parts
      rw [b3] at this
      have hm := (many_counts b2).1
      dsimp only at this
      omega
    refine ⟨?_, rfl, ?_, ?_, hk, ?_, by decide⟩
    · rw [OpC.putB, if_pos (show (zF 22).t = 14 ∨ (zF 22).t = 22 from .inr rfl)]
      exact b1
    · rw [OpC.allE, own_ok.2 (⟨by decide, Nat.zero_le _, Nat.zero_le _, Nat.zero_le _, Nat.zero_le _, fun K hK => by
        simp only [OpF.lists, zF, List.mem_cons, List.not_mem_nil, or_false, or_self] at hK
        subst hK
        exact Nat.zero_le _, fun s hs => by simp [OpF.texts, zF] at hs, fun _ => hlen, fun x hx => by simp [OpF.ids, zF] at hx, empty_valid, rfl, fun h => absurd (by decide) h⟩ : OwnOk (zF 22) S.length), if_neg (by simp)]
      exact b2
    · show _ = if (22 : Int) = 14 then (⟨k.parts + partsL S, k.multis + multisL S, k.depth⟩ : Cnt) else k
      rw [if_neg (by decide)]
    · rw [OpC.depth, if_neg (show ¬ (zF 22).t = 14 by decide)]
      exact hd8
  rename_i ht22
  have leaf : ∀ (f : OpF), Bk l p q (fldB f) → f.t = t → OwnOk f 0 → x = .mk f [] → k' = k → Bk l p q x.putB ∧ x.f.t = t ∧ x.allE = 0 ∧ k' = x.after k ∧ k'.Ok ∧ k.depth + x.depth ≤ 8 ∧ kindN t ≠ 5 := by
    rintro f a1 a2 a3 rfl rfl
    refine ⟨?_, a2, ?_, ?_, hk, ?_, h5⟩
    · rw [OpC.putB, a2, if_neg (fun e => e.elim ht14 ht22)]
      exact a1
    · rw [OpC.allE, show ([] : List OpC).length = 0 from rfl, own_ok.2 a3, if_neg (by simp), allL]
    · unfold OpC.after
      rw [show (OpC.mk f []).f.t = t from a2, if_neg ht14]
    · rw [OpC.depth, a2, if_neg ht14]
      exact hd8
  split at h
  · obtain ⟨f, hf, he⟩ := map_inl h
    simp only [Prod.mk.injEq] at he
    obtain ⟨a1, a2, a3⟩ := wat_forth hf
    exact leaf f a1 (by rw [a2]; exact (by assumption : t = 101).symm) a3 he.1.symm he.2.symm
  · rename_i ht101
    obtain ⟨f, hf, he⟩ := map_inl h
    simp only [Prod.mk.injEq] at he
    obtain ⟨a1, a2, a3⟩ := fld_forth hf hp h0 h5 ht14 ht22 ht101
    exact leaf f a1 a2 a3 he.1.symm he.2.symm
theorem subs_forth : ∀ N, SubsFo N
  | 0 => fun i k l p S k' q h => by cases h
  | N + 1 => fun i k l p S k' q h hp hk => by
    have HS := subs_forth N
    have h : (gInt.bind fun t => if (t != -1 && !mayN t i) = true then gFailR 110 else gBool.bind fun e => if (e != (t == -1)) = true then gFailR 22 else gInt.bind fun z => if (z != -1) = true then gFailR 22
      else if e = true then Rg.ret ([], k) else if (k.more t).big t = true then gFailR 3 else itemOf (gSubs N) i t k) l p = .inl ((S, k'), q) := h
    obtain ⟨t, q1, h1, ha⟩ := bind_inl h
    clear h
    by_cases hm : (t != -1 && !mayN t i) = true
    · rw [if_pos hm] at ha; cases ha
    rw [if_neg hm] at ha
    obtain ⟨e, q2, h2, hb0⟩ := bind_inl ha
    clear ha
    by_cases he : (e != (t == -1)) = true
    · rw [if_pos he] at hb0; cases hb0
    rw [if_neg he] at hb0
    obtain ⟨z, q3, h3, h⟩ := bind_inl hb0
    clear hb0
    by_cases hz : (z != -1) = true
    · rw [if_pos hz] at h; cases h
    rw [if_neg hz] at h
    have hz : z = -1 := by simpa using hz
    subst hz
    have b1 := int_bk h1
    have b2 := bool_bk' h2
    have b3 := int_bk h3
    have hb : Bk l p q3 (hdrB t e) := (b1.app b2).app b3
    have hd8 := hk.depth
    have he : e = (t == -1) := by simpa using he
    by_cases het : e = true
    · rw [if_pos het] at h
      subst het
      have ht : t = -1 := by simpa using he.symm
      subst ht
      simp only [Rg.ret, Sum.inl.injEq, Prod.mk.injEq] at h
      obtain ⟨⟨rfl, rfl⟩, rfl⟩ := h
      rw [subsB, List.nil_append, allL, partsL, multisL, depthL]
      exact ⟨hb, rfl, rfl, hk, hd8⟩
    rw [if_neg het] at h
    have hef : e = false := by simpa using het
    subst hef
    have ht : t ≠ -1 := by simpa using he.symm
    have hm : mayN t i = true := by simpa [ht] using hm
    by_cases hbig : (k.more t).big t = true
    · rw [if_pos hbig] at h; cases h
    rw [if_neg hbig] at h
    have hbig : (k.more t).big t = false := by simpa using hbig
    obtain ⟨m1, m2, m3⟩ := more_ok hk hbig
    unfold itemOf at h
    obtain ⟨⟨x, k1⟩, q4, h4, hc⟩ := bind_inl h
    obtain ⟨⟨r, k2⟩, h5, he2⟩ := map_inl hc
    clear h hc
    simp only [Prod.mk.injEq] at he2
    obtain ⟨rfl, rfl⟩ := he2
    obtain ⟨c1, c2, c3, c4, c5, c6, _⟩ := op_forth HS h4 hb.2.2 m1 (fun h => by rw [m2]; exact m3 h)
    obtain ⟨d1, d2, d3, d4, d5⟩ := HS i k1 l q4 r k2 q h5 c1.2.2 c5
    subst c2
    rw [after_more] at c4
    subst c4
    dsimp only at d3 d5
    rw [m2] at c6
    refine ⟨?_, ?_, ?_, d4, ?_⟩
    · rw [subsB]
      have := (hb.app c1).app d1
      rw [← List.append_assoc] at this
      exact this
    · rw [allL, hm, if_neg (by decide), c3, if_neg (by simp)]
      exact d2
    · rw [d3, partsL, multisL, Cnt.mk.injEq]
      exact ⟨Nat.add_assoc _ _ _, Nat.add_assoc _ _ _, rfl⟩
    · rw [depthL]
      omega
end Go.Proofs.YtpjjnmdfgcfnmaaGreatDoor
