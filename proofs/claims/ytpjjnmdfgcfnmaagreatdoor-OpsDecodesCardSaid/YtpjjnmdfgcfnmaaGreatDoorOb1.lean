/- An operation's own fields, written and read back; read and written: plain. (printed by gen_b1.py) -/
import Derived.Test.YtpjjnmdfgcfnmaaGreatDoorJx
import Derived.Test.YtpjjnmdfgcfnmaaGreatDoorOqn
import Derived.Test.YtpjjnmdfgcfnmaaGreatDoorOqp
set_option linter.unusedVariables false
set_option linter.unusedSimpArgs false
namespace Go.Proofs.YtpjjnmdfgcfnmaaGreatDoor
open Go.RowKit

theorem obs_list (x : List UInt8) : (bs x).data.toList = x := by simp [bs]
/-- written so, it is read so -/
def WB {α : Type} (d : List UInt8) (g : Rg α) (x : α) : Prop := ∀ l p, Atb l p d → g l p = .inl (x, p + d.length)
section
variable {α β : Type} {d e : List UInt8} {f : Rg α} {g : α → Rg β} {x : α} {y : β}
theorem WB.bind (h : WB d f x) (k : WB e (g x) y) : WB (d ++ e) (f.bind g) y := fun l p ha => by
  rw [gb_ev (h l p ha.left), k l _ ha.right, List.length_append, Nat.add_assoc]
theorem WB.ret (x : α) : WB [] (Rg.ret x) x := fun _ _ _ => rfl
theorem WB.last (h : WB d f x) (k : g x = Rg.ret y) : WB d (f.bind g) y := fun l p ha => by
  rw [gb_ev (h l p ha), k]
  rfl
theorem WB.map (h : WB d f x) (k : α → β) : WB d (f.map k) (k x) := fun l p ha => by
  unfold Rg.map
  rw [h l p ha]
end
/-! what must be of an operation's own fields -/
structure OwnOk (f : OpF) (n : Nat) : Prop where
  kind : kindN f.t ≠ 0
  p : f.p.size ≤ 4096
  l : f.l.length ≤ 1048575
  L : f.L.length ≤ 16
  I : f.I.length ≤ 16
  lists : ∀ K ∈ f.lists, K.length ≤ 1024
  texts : ∀ s ∈ f.texts, s.size ≤ 4096 ∧ validS s = true
  many : f.t = 22 → n ≤ 1024
  ids : ∀ x ∈ f.ids, longI x = false ∧ oddI x = false
  pv : validS f.p = true
  kept : keptF f = f
  none : f.t ∉ tS → n = 0
theorem plain_eq {f g : OpF} : plainB f g = true ↔ f = g := by
  obtain ⟨t, p, l, L, fl, ve, wa, ct, by_, tl, zx, K0, K1, K2, K3, K4, to_, I⟩ := f
  obtain ⟨t', p', l', L', fl', ve', wa', ct', by_', tl', zx', K0', K1', K2', K3', K4', to_', I'⟩ := g
  unfold plainB OpF.lists
  simp only [Bool.and_eq_true, beq_iff_eq, decide_eq_true_eq, toL_iff, OpF.mk.injEq, List.cons.injEq, and_true]
  constructor
  · rintro ⟨⟨⟨⟨⟨⟨⟨⟨⟨⟨⟨⟨⟨h1, h2⟩, h3⟩, h4⟩, h5⟩, h6⟩, h7⟩, h8⟩, h9⟩, h10⟩, h11⟩, h12⟩, h13⟩, h14, h15, h16, h17, h18⟩
    exact ⟨h1, h2, h3, h4, h5, h6, h7, h8, h9, h12, h13, h14, h15, h16, h17, h18, h10, h11⟩
  · rintro ⟨h1, h2, h3, h4, h5, h6, h7, h8, h9, h12, h13, h14, h15, h16, h17, h18, h10, h11⟩
    exact ⟨⟨⟨⟨⟨⟨⟨⟨⟨⟨⟨⟨⟨h1, h2⟩, h3⟩, h4⟩, h5⟩, h6⟩, h7⟩, h8⟩, h9⟩, h10⟩, h11⟩, h12⟩, h13⟩, h14, h15, h16, h17, h18⟩
theorem own_ok {f : OpF} {n : Nat} : ownE f n = 0 ↔ OwnOk f n := by
  have hs : ((n : Int) != ((if f.t ∈ tS then n else 0 : Nat) : Int)) = false ↔ (f.t ∉ tS → n = 0) := by
    by_cases h : f.t ∈ tS
    · simp [h]
    · simp [h]
  unfold ownE
  constructor
  · intro h
    split at h
    · cases h
    rename_i h0
    split at h
    · cases h
    rename_i h1
    split at h
    · cases h
    rename_i h2
    simp only [bigB, manyB, oddB, longP, oddP, Bool.not_eq_true, Bool.or_eq_false_iff, decide_eq_false_iff_not, List.any_eq_false, Bool.not_eq_false', decide_eq_true_eq, hs, plain_eq, Bool.and_eq_false_iff, beq_eq_false_iff_ne] at h1 h2
    obtain ⟨⟨⟨⟨⟨a1, a2⟩, a3⟩, a4⟩, ⟨⟨a5, a6⟩, a7⟩⟩, a8⟩ := h1
    obtain ⟨⟨⟨⟨b1, b2⟩, b3⟩, b4⟩, b5⟩ := h2
    exact ⟨h0, by omega, by omega, by omega, by omega, fun K hK => by have := a5 K hK; omega, fun s hs => ⟨by have := a6 s hs; omega, by have := b3 s hs; simpa using this⟩, fun h => by
      rcases a7 with a7 | a7
      · exact absurd h a7
      · omega, fun x hx => ⟨by simpa using a8 x hx, by simpa using b2 x hx⟩, b1, b4.symm, b5⟩
  · intro h
    have h1 : bigB f n = false := by
      simp only [bigB, manyB, longP, Bool.or_eq_false_iff, decide_eq_false_iff_not, List.any_eq_false, decide_eq_true_eq, Bool.and_eq_false_iff, beq_eq_false_iff_ne]
      refine ⟨⟨⟨⟨⟨?_, ?_⟩, ?_⟩, ?_⟩, ⟨⟨fun K hK => ?_, fun s hs => ?_⟩, ?_⟩⟩, fun x hx => ?_⟩
      · have := h.p; omega
      · have := h.l; omega
      · have := h.L; omega
      · have := h.I; omega
      · have := h.lists K hK; omega
      · have := (h.texts s hs).1; omega
      · by_cases h22 : f.t = 22
        · right
          have := h.many h22
          omega
        · exact .inl h22
      · rw [(h.ids x hx).1]; simp
    have h2 : oddB f n = false := by
      simp only [oddB, oddP, Bool.or_eq_false_iff, List.any_eq_false, Bool.not_eq_false', hs, plain_eq]
      refine ⟨⟨⟨⟨h.pv, fun x hx => ?_⟩, fun s hs => ?_⟩, h.kept.symm⟩, h.none⟩
      · rw [(h.ids x hx).2]; simp
      · rw [(h.texts s hs).2]; simp
    rw [if_neg h.kind, h1, h2]
    simp

/-! what was read of fields may be, and is written as it was -/
theorem bool_bk' {l : List UInt8} {p q : Nat} {b : Bool} (h : gBool l p = .inl (b, q)) : Bk l p q (bBool b) := by
  unfold gBool at h
  split at h
  · rename_i n q' hn
    split at h
    · cases h
    · rename_i hle
      simp only [Sum.inl.injEq, Prod.mk.injEq] at h
      obtain ⟨rfl, rfl⟩ := h
      obtain ⟨h1, rfl, h3⟩ := num_back hn
      refine ⟨?_, by omega, h3⟩
      rw [Nat.add_sub_cancel_left, ← h1]
      have hn2 : n = 0 ∨ n = 1 := by omega
      rcases hn2 with rfl | rfl <;> rfl
  · cases h
theorem buf_bk' {most : Int} {l x : List UInt8} {p q : Nat} (h : gBuf most l p = .inl (x, q)) : Bk l p q (bBuf x) := buf_back h
theorem many_fo {α : Type} {g : Rg α} {f : α → List UInt8} {Q : α → Prop} {l : List UInt8} (hg : ∀ x p q, g l p = .inl (x, q) → Bk l p q (f x) ∧ Q x) : ∀ (n p q : Nat) (L : List α), p ≤ l.length → gMany g n l p = .inl (L, q) → Bk l p q (L.flatMap f) ∧ L.length = n ∧ ∀ x ∈ L, Q x
  | 0, p, q, L, hp, h => by
    simp only [gMany, Rg.ret, Sum.inl.injEq, Prod.mk.injEq] at h
    obtain ⟨rfl, rfl⟩ := h
    exact ⟨Bk.nil l p hp, rfl, fun _ h => by cases h⟩
  | n + 1, p, q, L, hp, h => by
    rw [gMany_succ] at h
    split at h
    · rename_i x q1 hx
      split at h
      · rename_i r q2 hr
        simp only [Sum.inl.injEq, Prod.mk.injEq] at h
        obtain ⟨rfl, rfl⟩ := h
        obtain ⟨h1, h2⟩ := hg _ _ _ hx
        obtain ⟨h3, h4, h5⟩ := many_fo hg n q1 q2 r h1.2.2 hr
        rw [List.flatMap_cons, List.length_cons, h4]
        exact ⟨h1.app h3, rfl, fun y hy => by
          rcases List.mem_cons.1 hy with rfl | hy
          · exact h2
          · exact h5 y hy⟩
      · cases h
    · cases h
theorem get_fo {α : Type} {g : Rg α} {f : α → List UInt8} {Q : α → Prop} {l : List UInt8} (hg : ∀ x p q, g l p = .inl (x, q) → Bk l p q (f x) ∧ Q x) {most least : Int} {p q : Nat} {L : List α} (h : gGet most least g l p = .inl (L, q)) : Bk l p q (bInt L.length ++ L.flatMap f) ∧ (L.length : Int) ≤ most ∧ ∀ x ∈ L, Q x := by
  unfold gGet at h
  obtain ⟨n, q1, hc, hm⟩ := bind_inl h
  obtain ⟨c1, c2, c3⟩ := count_back hc
  obtain ⟨h1, h2, h3⟩ := many_fo hg n q1 q L (by omega) hm
  have hb : Bk l p q1 (bInt L.length) := ⟨by rw [h2, c1, c2, Nat.add_sub_cancel_left], by omega, by omega⟩
  exact ⟨hb.app h1, by rw [h2]; exact gCount_most hc, h3⟩
theorem text_fo {most : Int} {l x : List UInt8} {p q : Nat} (h : gText most l p = .inl (x, q)) : Bk l p q (bBuf (bs x).data.toList) ∧ ((bs x).size : Int) ≤ most ∧ validS (bs x) = true := by
  rw [obs_list, bs_size]
  exact ⟨text_back h, gText_most h, by unfold validS; rw [obs_list]; exact (gText_inl h).2⟩
theorem id_fo {l : List UInt8} {p q : Nat} {x : ByteArray × ByteArray} (h : gIdO l p = .inl (x, q)) : Bk l p q (pIdB x) ∧ (longI x = false ∧ oddI x = false) := by
  obtain ⟨s, q1, h1, h⟩ := bind_inl h
  obtain ⟨i, h2, rfl⟩ := map_inl h
  obtain ⟨a1, a2, a3⟩ := text_fo h1
  obtain ⟨b1, b2, b3⟩ := text_fo h2
  refine ⟨a1.app b1, ?_, ?_⟩
  · unfold longI
    simp only [Bool.or_eq_false_iff, decide_eq_false_iff_not]
    constructor <;> omega
  · unfold oddI
    rw [a3, b3]
    rfl
theorem acl_fo {l : List UInt8} {p q : Nat} {x : AclT} (h : gAcl l p = .inl (x, q)) : Bk l p q (pAclB x) ∧ (longI x.2 = false ∧ oddI x.2 = false) := by
  obtain ⟨z, q1, h1, h⟩ := bind_inl h
  obtain ⟨i, h2, rfl⟩ := map_inl h
  obtain ⟨b1, b2⟩ := id_fo h2
  exact ⟨(int_bk h1).app b1, b2⟩
theorem ids_fo {l : List UInt8} {p q : Nat} {L : List (ByteArray × ByteArray)} (h : gGet 16 8 gIdO l p = .inl (L, q)) : Bk l p q (bInt L.length ++ pIdsB L) ∧ L.length ≤ 16 ∧ ∀ x ∈ L, longI x = false ∧ oddI x = false := by
  obtain ⟨h1, h2, h3⟩ := get_fo (fun x p q h => id_fo h) h
  exact ⟨h1, by omega, h3⟩
theorem acls_fo {l : List UInt8} {p q : Nat} {L : List AclT} (h : gGet 16 12 gAcl l p = .inl (L, q)) : Bk l p q (bInt L.length ++ pAclsB L) ∧ L.length ≤ 16 ∧ ∀ x ∈ L, longI x.2 = false ∧ oddI x.2 = false := by
  obtain ⟨h1, h2, h3⟩ := get_fo (fun x p q h => acl_fo h) h
  exact ⟨h1, by omega, h3⟩
theorem texts_fo {l : List UInt8} {p q : Nat} {L : List (List UInt8)} (h : gTexts l p = .inl (L, q)) : Bk l p q (bInt (L.map bs).length ++ bTexts (L.map bs)) ∧ (L.map bs).length ≤ 1024 ∧ ∀ s ∈ L.map bs, s.size ≤ 4096 ∧ validS s = true := by
  obtain ⟨h1, h2, h3⟩ := get_fo (f := fun x => bBuf (bs x).data.toList) (Q := fun x => (bs x).size ≤ 4096 ∧ validS (bs x) = true) (fun x p q h => by
    obtain ⟨a, b, c⟩ := text_fo h
    exact ⟨a, by omega, c⟩) h
  unfold bTexts
  rw [List.length_map, List.flatMap_map]
  refine ⟨h1, by omega, fun s hs => ?_⟩
  obtain ⟨x, hx, rfl⟩ := List.mem_map.1 hs
  exact h3 x hx
theorem empty_valid : validS ⟨#[]⟩ = true := by
  unfold validS
  rfl
theorem forth_g0 {t : Int} (htt : t ∈ ([1, 15, 19] : List Int)) {l : List UInt8} {p q : Nat} {f : OpF} (h : gFld t l p = .inl (f, q)) (hp : p ≤ l.length) : Bk l p q (fldB f) ∧ f.t = t ∧ OwnOk f 0 := by
  simp only [List.mem_cons, List.not_mem_nil, or_false] at htt
  have h : ((gText 4096).bind fun x1 => (gBuf 1048575).bind fun x2 => (gGet 16 12 gAcl).bind fun x3 => (gInt).bind fun x4 => Rg.ret ({ { { { zF t with p := bs x1 } with l := x2 } with L := x3 } with fl := x4 } : OpF)) l p = .inl (f, q) := by
    rcases htt with rfl | rfl | rfl <;> exact h
  obtain ⟨x1, q1, h1, h⟩ := bind_inl h
  have a1 := text_fo h1
  obtain ⟨x2, q2, h2, h⟩ := bind_inl h
  have a2 := gBuf_most h2
  obtain ⟨x3, q3, h3, h⟩ := bind_inl h
  have a3 := acls_fo h3
  obtain ⟨x4, q4, h4, h⟩ := bind_inl h
  have h : (Sum.inl (_, _) : (OpF × Nat) ⊕ (Int × Nat)) = .inl (f, q) := h
  simp only [Sum.inl.injEq, Prod.mk.injEq] at h
  obtain ⟨rfl, rfl⟩ := h
  refine ⟨by rcases htt with rfl | rfl | rfl <;> exact (((a1.1).app (buf_bk' h2)).app a3.1).app (int_bk h4), rfl, ⟨by dsimp only [zF]; rcases htt with rfl | rfl | rfl <;> decide, (by have := a1.2.1; dsimp only; omega), (by dsimp only; omega), a3.2.1, Nat.zero_le _, ?_, ?_, fun _ => Nat.zero_le _, ?_, a1.2.2, by rcases htt with rfl | rfl | rfl <;> rfl, fun _ => rfl⟩⟩
  · intro K hK
    simp only [OpF.lists, zF, List.mem_cons, List.not_mem_nil, or_false, or_self] at hK
    subst hK
    exact Nat.zero_le _
  · intro s hs
    simp [OpF.texts, zF] at hs
  · intro x hx
    simp only [OpF.ids, zF, List.nil_append] at hx
    obtain ⟨y, hy, rfl⟩ := List.mem_map.1 hx
    exact a3.2.2 y hy
theorem forth_g1 {t : Int} (htt : t ∈ ([21] : List Int)) {l : List UInt8} {p q : Nat} {f : OpF} (h : gFld t l p = .inl (f, q)) (hp : p ≤ l.length) : Bk l p q (fldB f) ∧ f.t = t ∧ OwnOk f 0 := by
  simp only [List.mem_cons, List.not_mem_nil, or_false] at htt
  have h : ((gText 4096).bind fun x1 => (gBuf 1048575).bind fun x2 => (gGet 16 12 gAcl).bind fun x3 => (gInt).bind fun x4 => (gLong).bind fun x5 => Rg.ret ({ { { { { zF t with p := bs x1 } with l := x2 } with L := x3 } with fl := x4 } with tl := x5 } : OpF)) l p = .inl (f, q) := by
    rcases htt with rfl <;> exact h
  obtain ⟨x1, q1, h1, h⟩ := bind_inl h
  have a1 := text_fo h1
  obtain ⟨x2, q2, h2, h⟩ := bind_inl h
  have a2 := gBuf_most h2
  obtain ⟨x3, q3, h3, h⟩ := bind_inl h
  have a3 := acls_fo h3
  obtain ⟨x4, q4, h4, h⟩ := bind_inl h
  obtain ⟨x5, q5, h5, h⟩ := bind_inl h
  have h : (Sum.inl (_, _) : (OpF × Nat) ⊕ (Int × Nat)) = .inl (f, q) := h
  simp only [Sum.inl.injEq, Prod.mk.injEq] at h
  obtain ⟨rfl, rfl⟩ := h
  refine ⟨by rcases htt with rfl <;> exact ((((a1.1).app (buf_bk' h2)).app a3.1).app (int_bk h4)).app (long_bk h5), rfl, ⟨by dsimp only [zF]; rcases htt with rfl <;> decide, (by have := a1.2.1; dsimp only; omega), (by dsimp only; omega), a3.2.1, Nat.zero_le _, ?_, ?_, fun _ => Nat.zero_le _, ?_, a1.2.2, by rcases htt with rfl <;> rfl, fun _ => rfl⟩⟩
  · intro K hK
    simp only [OpF.lists, zF, List.mem_cons, List.not_mem_nil, or_false, or_self] at hK
    subst hK
    exact Nat.zero_le _
  · intro s hs
    simp [OpF.texts, zF] at hs
  · intro x hx
    simp only [OpF.ids, zF, List.nil_append] at hx
    obtain ⟨y, hy, rfl⟩ := List.mem_map.1 hx
    exact a3.2.2 y hy
theorem forth_g2 {t : Int} (htt : t ∈ ([2, 13] : List Int)) {l : List UInt8} {p q : Nat} {f : OpF} (h : gFld t l p = .inl (f, q)) (hp : p ≤ l.length) : Bk l p q (fldB f) ∧ f.t = t ∧ OwnOk f 0 := by
  simp only [List.mem_cons, List.not_mem_nil, or_false] at htt
  have h : ((gText 4096).bind fun x1 => (gInt).bind fun x2 => Rg.ret ({ { zF t with p := bs x1 } with ve := x2 } : OpF)) l p = .inl (f, q) := by
    rcases htt with rfl | rfl <;> exact h
  obtain ⟨x1, q1, h1, h⟩ := bind_inl h
  have a1 := text_fo h1
  obtain ⟨x2, q2, h2, h⟩ := bind_inl h
  have h : (Sum.inl (_, _) : (OpF × Nat) ⊕ (Int × Nat)) = .inl (f, q) := h
  simp only [Sum.inl.injEq, Prod.mk.injEq] at h
  obtain ⟨rfl, rfl⟩ := h
  refine ⟨by rcases htt with rfl | rfl <;> exact (a1.1).app (int_bk h2), rfl, ⟨by dsimp only [zF]; rcases htt with rfl | rfl <;> decide, (by have := a1.2.1; dsimp only; omega), Nat.zero_le _, Nat.zero_le _, Nat.zero_le _, ?_, ?_, fun _ => Nat.zero_le _, ?_, a1.2.2, by rcases htt with rfl | rfl <;> rfl, fun _ => rfl⟩⟩
  · intro K hK
    simp only [OpF.lists, zF, List.mem_cons, List.not_mem_nil, or_false, or_self] at hK
    subst hK
    exact Nat.zero_le _
  · intro s hs
    simp [OpF.texts, zF] at hs
  · intro x hx
    simp [OpF.ids, zF] at hx
theorem forth_g3 {t : Int} (htt : t ∈ ([5] : List Int)) {l : List UInt8} {p q : Nat} {f : OpF} (h : gFld t l p = .inl (f, q)) (hp : p ≤ l.length) : Bk l p q (fldB f) ∧ f.t = t ∧ OwnOk f 0 := by
  simp only [List.mem_cons, List.not_mem_nil, or_false] at htt
  have h : ((gText 4096).bind fun x1 => (gBuf 1048575).bind fun x2 => (gInt).bind fun x3 => Rg.ret ({ { { zF t with p := bs x1 } with l := x2 } with ve := x3 } : OpF)) l p = .inl (f, q) := by
    rcases htt with rfl <;> exact h
  obtain ⟨x1, q1, h1, h⟩ := bind_inl h
  have a1 := text_fo h1
  obtain ⟨x2, q2, h2, h⟩ := bind_inl h
  have a2 := gBuf_most h2
  obtain ⟨x3, q3, h3, h⟩ := bind_inl h
  have h : (Sum.inl (_, _) : (OpF × Nat) ⊕ (Int × Nat)) = .inl (f, q) := h
  simp only [Sum.inl.injEq, Prod.mk.injEq] at h
  obtain ⟨rfl, rfl⟩ := h
  refine ⟨by rcases htt with rfl <;> exact ((a1.1).app (buf_bk' h2)).app (int_bk h3), rfl, ⟨by dsimp only [zF]; rcases htt with rfl <;> decide, (by have := a1.2.1; dsimp only; omega), (by dsimp only; omega), Nat.zero_le _, Nat.zero_le _, ?_, ?_, fun _ => Nat.zero_le _, ?_, a1.2.2, by rcases htt with rfl <;> rfl, fun _ => rfl⟩⟩
  · intro K hK
    simp only [OpF.lists, zF, List.mem_cons, List.not_mem_nil, or_false, or_self] at hK
    subst hK
    exact Nat.zero_le _
  · intro s hs
    simp [OpF.texts, zF] at hs
  · intro x hx
    simp [OpF.ids, zF] at hx
theorem forth_g4 {t : Int} (htt : t ∈ ([7] : List Int)) {l : List UInt8} {p q : Nat} {f : OpF} (h : gFld t l p = .inl (f, q)) (hp : p ≤ l.length) : Bk l p q (fldB f) ∧ f.t = t ∧ OwnOk f 0 := by
  simp only [List.mem_cons, List.not_mem_nil, or_false] at htt
  have h : ((gText 4096).bind fun x1 => (gGet 16 12 gAcl).bind fun x2 => (gInt).bind fun x3 => Rg.ret ({ { { zF t with p := bs x1 } with L := x2 } with ve := x3 } : OpF)) l p = .inl (f, q) := by
    rcases htt with rfl <;> exact h
  obtain ⟨x1, q1, h1, h⟩ := bind_inl h
  have a1 := text_fo h1
  obtain ⟨x2, q2, h2, h⟩ := bind_inl h
  have a2 := acls_fo h2
  obtain ⟨x3, q3, h3, h⟩ := bind_inl h
  have h : (Sum.inl (_, _) : (OpF × Nat) ⊕ (Int × Nat)) = .inl (f, q) := h
  simp only [Sum.inl.injEq, Prod.mk.injEq] at h
  obtain ⟨rfl, rfl⟩ := h
  refine ⟨by rcases htt with rfl <;> exact ((a1.1).app a2.1).app (int_bk h3), rfl, ⟨by dsimp only [zF]; rcases htt with rfl <;> decide, (by have := a1.2.1; dsimp only; omega), Nat.zero_le _, a2.2.1, Nat.zero_le _, ?_, ?_, fun _ => Nat.zero_le _, ?_, a1.2.2, by rcases htt with rfl <;> rfl, fun _ => rfl⟩⟩
  · intro K hK
    simp only [OpF.lists, zF, List.mem_cons, List.not_mem_nil, or_false, or_self] at hK
    subst hK
    exact Nat.zero_le _
  · intro s hs
    simp [OpF.texts, zF] at hs
  · intro x hx
    simp only [OpF.ids, zF, List.nil_append] at hx
    obtain ⟨y, hy, rfl⟩ := List.mem_map.1 hx
    exact a2.2.2 y hy
theorem forth_g5 {t : Int} (htt : t ∈ ([120] : List Int)) {l : List UInt8} {p q : Nat} {f : OpF} (h : gFld t l p = .inl (f, q)) (hp : p ≤ l.length) : Bk l p q (fldB f) ∧ f.t = t ∧ OwnOk f 0 := by
  simp only [List.mem_cons, List.not_mem_nil, or_false] at htt
  have h : ((gText 4096).bind fun x1 => (gLong).bind fun x2 => (gLong).bind fun x3 => Rg.ret ({ { { zF t with p := bs x1 } with ct := x2 } with by_ := x3 } : OpF)) l p = .inl (f, q) := by
    rcases htt with rfl <;> exact h
  obtain ⟨x1, q1, h1, h⟩ := bind_inl h
  have a1 := text_fo h1
  obtain ⟨x2, q2, h2, h⟩ := bind_inl h
  obtain ⟨x3, q3, h3, h⟩ := bind_inl h
  have h : (Sum.inl (_, _) : (OpF × Nat) ⊕ (Int × Nat)) = .inl (f, q) := h
  simp only [Sum.inl.injEq, Prod.mk.injEq] at h
  obtain ⟨rfl, rfl⟩ := h
  refine ⟨by rcases htt with rfl <;> exact ((a1.1).app (long_bk h2)).app (long_bk h3), rfl, ⟨by dsimp only [zF]; rcases htt with rfl <;> decide, (by have := a1.2.1; dsimp only; omega), Nat.zero_le _, Nat.zero_le _, Nat.zero_le _, ?_, ?_, fun _ => Nat.zero_le _, ?_, a1.2.2, by rcases htt with rfl <;> rfl, fun _ => rfl⟩⟩
  · intro K hK
    simp only [OpF.lists, zF, List.mem_cons, List.not_mem_nil, or_false, or_self] at hK
    subst hK
    exact Nat.zero_le _
  · intro s hs
    simp [OpF.texts, zF] at hs
  · intro x hx
    simp [OpF.ids, zF] at hx
theorem forth_g6 {t : Int} (htt : t ∈ ([121, 6, 9, 103, 104] : List Int)) {l : List UInt8} {p q : Nat} {f : OpF} (h : gFld t l p = .inl (f, q)) (hp : p ≤ l.length) : Bk l p q (fldB f) ∧ f.t = t ∧ OwnOk f 0 := by
  simp only [List.mem_cons, List.not_mem_nil, or_false] at htt
  have h : ((gText 4096).bind fun x1 => Rg.ret ({ zF t with p := bs x1 } : OpF)) l p = .inl (f, q) := by
    rcases htt with rfl | rfl | rfl | rfl | rfl <;> exact h
  obtain ⟨x1, q1, h1, h⟩ := bind_inl h
  have a1 := text_fo h1
  have h : (Sum.inl (_, _) : (OpF × Nat) ⊕ (Int × Nat)) = .inl (f, q) := h
  simp only [Sum.inl.injEq, Prod.mk.injEq] at h
  obtain ⟨rfl, rfl⟩ := h
  refine ⟨by rcases htt with rfl | rfl | rfl | rfl | rfl <;> exact a1.1, rfl, ⟨by dsimp only [zF]; rcases htt with rfl | rfl | rfl | rfl | rfl <;> decide, (by have := a1.2.1; dsimp only; omega), Nat.zero_le _, Nat.zero_le _, Nat.zero_le _, ?_, ?_, fun _ => Nat.zero_le _, ?_, a1.2.2, by rcases htt with rfl | rfl | rfl | rfl | rfl <;> rfl, fun _ => rfl⟩⟩
  · intro K hK
    simp only [OpF.lists, zF, List.mem_cons, List.not_mem_nil, or_false, or_self] at hK
    subst hK
    exact Nat.zero_le _
  · intro s hs
    simp [OpF.texts, zF] at hs
  · intro x hx
    simp [OpF.ids, zF] at hx
theorem forth_g7 {t : Int} (htt : t ∈ ([3, 4, 8, 12] : List Int)) {l : List UInt8} {p q : Nat} {f : OpF} (h : gFld t l p = .inl (f, q)) (hp : p ≤ l.length) : Bk l p q (fldB f) ∧ f.t = t ∧ OwnOk f 0 := by
  simp only [List.mem_cons, List.not_mem_nil, or_false] at htt
  have h : ((gText 4096).bind fun x1 => (gBool).bind fun x2 => Rg.ret ({ { zF t with p := bs x1 } with wa := x2 } : OpF)) l p = .inl (f, q) := by
    rcases htt with rfl | rfl | rfl | rfl <;> exact h
  obtain ⟨x1, q1, h1, h⟩ := bind_inl h
  have a1 := text_fo h1
  obtain ⟨x2, q2, h2, h⟩ := bind_inl h
  have h : (Sum.inl (_, _) : (OpF × Nat) ⊕ (Int × Nat)) = .inl (f, q) := h
  simp only [Sum.inl.injEq, Prod.mk.injEq] at h
  obtain ⟨rfl, rfl⟩ := h
  refine ⟨by rcases htt with rfl | rfl | rfl | rfl <;> exact (a1.1).app (bool_bk' h2), rfl, ⟨by dsimp only [zF]; rcases htt with rfl | rfl | rfl | rfl <;> decide, (by have := a1.2.1; dsimp only; omega), Nat.zero_le _, Nat.zero_le _, Nat.zero_le _, ?_, ?_, fun _ => Nat.zero_le _, ?_, a1.2.2, by rcases htt with rfl | rfl | rfl | rfl <;> rfl, fun _ => rfl⟩⟩
  · intro K hK
    simp only [OpF.lists, zF, List.mem_cons, List.not_mem_nil, or_false, or_self] at hK
    subst hK
    exact Nat.zero_le _
  · intro s hs
    simp [OpF.texts, zF] at hs
  · intro x hx
    simp [OpF.ids, zF] at hx
theorem forth_g8 {t : Int} (htt : t ∈ ([106, 18] : List Int)) {l : List UInt8} {p q : Nat} {f : OpF} (h : gFld t l p = .inl (f, q)) (hp : p ≤ l.length) : Bk l p q (fldB f) ∧ f.t = t ∧ OwnOk f 0 := by
  simp only [List.mem_cons, List.not_mem_nil, or_false] at htt
  have h : ((gText 4096).bind fun x1 => (gInt).bind fun x2 => Rg.ret ({ { zF t with p := bs x1 } with fl := x2 } : OpF)) l p = .inl (f, q) := by
    rcases htt with rfl | rfl <;> exact h
  obtain ⟨x1, q1, h1, h⟩ := bind_inl h
  have a1 := text_fo h1
  obtain ⟨x2, q2, h2, h⟩ := bind_inl h
  have h : (Sum.inl (_, _) : (OpF × Nat) ⊕ (Int × Nat)) = .inl (f, q) := h
  simp only [Sum.inl.injEq, Prod.mk.injEq] at h
  obtain ⟨rfl, rfl⟩ := h
  refine ⟨by rcases htt with rfl | rfl <;> exact (a1.1).app (int_bk h2), rfl, ⟨by dsimp only [zF]; rcases htt with rfl | rfl <;> decide, (by have := a1.2.1; dsimp only; omega), Nat.zero_le _, Nat.zero_le _, Nat.zero_le _, ?_, ?_, fun _ => Nat.zero_le _, ?_, a1.2.2, by rcases htt with rfl | rfl <;> rfl, fun _ => rfl⟩⟩
  · intro K hK
    simp only [OpF.lists, zF, List.mem_cons, List.not_mem_nil, or_false, or_self] at hK
    subst hK
    exact Nat.zero_le _
  · intro s hs
    simp [OpF.texts, zF] at hs
  · intro x hx
    simp [OpF.ids, zF] at hx
theorem forth_g9 {t : Int} (htt : t ∈ ([(-10)] : List Int)) {l : List UInt8} {p q : Nat} {f : OpF} (h : gFld t l p = .inl (f, q)) (hp : p ≤ l.length) : Bk l p q (fldB f) ∧ f.t = t ∧ OwnOk f 0 := by
  simp only [List.mem_cons, List.not_mem_nil, or_false] at htt
  have h : ((gInt).bind fun x1 => (gGet 16 8 gIdO).bind fun x2 => Rg.ret ({ (⟨(zF t).t, (zF t).p, (zF t).l, (zF t).L, (zF t).fl, (zF t).ve, (zF t).wa, (zF t).ct, (zF t).by_, (zF t).tl, (zF t).zx, (zF t).K0, (zF t).K1, (zF t).K2, (zF t).K3, (zF t).K4, x1, (zF t).I⟩ : OpF) with I := x2 } : OpF)) l p = .inl (f, q) := by
    rcases htt with rfl <;> exact h
  obtain ⟨x1, q1, h1, h⟩ := bind_inl h
  obtain ⟨x2, q2, h2, h⟩ := bind_inl h
  have a2 := ids_fo h2
  have h : (Sum.inl (_, _) : (OpF × Nat) ⊕ (Int × Nat)) = .inl (f, q) := h
  simp only [Sum.inl.injEq, Prod.mk.injEq] at h
  obtain ⟨rfl, rfl⟩ := h
  refine ⟨by rcases htt with rfl <;> exact ((int_bk h1)).app a2.1, rfl, ⟨by dsimp only [zF]; rcases htt with rfl <;> decide, Nat.zero_le _, Nat.zero_le _, Nat.zero_le _, a2.2.1, ?_, ?_, fun _ => Nat.zero_le _, ?_, empty_valid, by rcases htt with rfl <;> rfl, fun _ => rfl⟩⟩
  · intro K hK
    simp only [OpF.lists, zF, List.mem_cons, List.not_mem_nil, or_false, or_self] at hK
    subst hK
    exact Nat.zero_le _
  · intro s hs
    simp [OpF.texts, zF] at hs
  · intro x hx
    simp only [OpF.ids, zF, List.map_nil, List.append_nil] at hx
    exact a2.2.2 x hx
theorem forth_g10 {t : Int} (htt : t ∈ ([(-11), 11, 107] : List Int)) {l : List UInt8} {p q : Nat} {f : OpF} (h : gFld t l p = .inl (f, q)) (hp : p ≤ l.length) : Bk l p q (fldB f) ∧ f.t = t ∧ OwnOk f 0 := by
  simp only [List.mem_cons, List.not_mem_nil, or_false] at htt
  have h : (Rg.ret (zF t : OpF)) l p = .inl (f, q) := by
    rcases htt with rfl | rfl | rfl <;> exact h
  have h : (Sum.inl (_, _) : (OpF × Nat) ⊕ (Int × Nat)) = .inl (f, q) := h
  simp only [Sum.inl.injEq, Prod.mk.injEq] at h
  obtain ⟨rfl, rfl⟩ := h
  refine ⟨by rcases htt with rfl | rfl | rfl <;> exact Bk.nil l p hp, rfl, ⟨by dsimp only [zF]; rcases htt with rfl | rfl | rfl <;> decide, Nat.zero_le _, Nat.zero_le _, Nat.zero_le _, Nat.zero_le _, ?_, ?_, fun _ => Nat.zero_le _, ?_, empty_valid, by rcases htt with rfl | rfl | rfl <;> rfl, fun _ => rfl⟩⟩
  · intro K hK
    simp only [OpF.lists, zF, List.mem_cons, List.not_mem_nil, or_false, or_self] at hK
    subst hK
    exact Nat.zero_le _
  · intro s hs
    simp [OpF.texts, zF] at hs
  · intro x hx
    simp [OpF.ids, zF] at hx
theorem wat_forth {l : List UInt8} {p q : Nat} {f : OpF} (h : gWat l p = .inl (f, q)) : Bk l p q (fldB f) ∧ f.t = 101 ∧ OwnOk f 0 := by
  obtain ⟨z, q0, h0, h⟩ := bind_inl h
  obtain ⟨x0, q1, h1, h⟩ := bind_inl h
  obtain ⟨x1, q2, h2, h⟩ := bind_inl h
  obtain ⟨x2, q3, h3, h⟩ := bind_inl h
  obtain ⟨x3, q4, h4, h⟩ := bind_inl h
  obtain ⟨x4, q5, h5, h⟩ := bind_inl h
  have h : (Sum.inl (_, _) : (OpF × Nat) ⊕ (Int × Nat)) = .inl (f, q) := h
  simp only [Sum.inl.injEq, Prod.mk.injEq] at h
  obtain ⟨rfl, rfl⟩ := h
  obtain ⟨a1, b1, c1⟩ := texts_fo h1
  obtain ⟨a2, b2, c2⟩ := texts_fo h2
  obtain ⟨a3, b3, c3⟩ := texts_fo h3
  obtain ⟨a4, b4, c4⟩ := texts_fo h4
  obtain ⟨a5, b5, c5⟩ := texts_fo h5
  refine ⟨?_, rfl, ⟨by dsimp only [zF]; decide, Nat.zero_le _, Nat.zero_le _, Nat.zero_le _, Nat.zero_le _, ?_, ?_, fun _ => Nat.zero_le _, ?_, empty_valid, rfl, fun _ => rfl⟩⟩
  · have hb := (long_bk h0).app (a1.app (a2.app (a3.app (a4.app a5))))
    refine cast (congrArg (Bk l p q5) ?_) hb
    show _ = bLong z ++ pListsB _
    unfold pListsB OpF.lists
    simp only [List.flatMap_cons, List.flatMap_nil, List.append_nil]
  · intro K hK
    simp only [OpF.lists, List.mem_cons, List.not_mem_nil, or_false] at hK
    rcases hK with rfl | rfl | rfl | rfl | rfl
    · exact b1
    · exact b2
    · exact b3
    · exact b4
    · exact b5
  · intro s hs
    simp only [OpF.texts, List.mem_append] at hs
    rcases hs with hs | hs | hs | hs | hs
    · exact c1 s hs
    · exact c2 s hs
    · exact c3 s hs
    · exact c4 s hs
    · exact c5 s hs
  · intro x hx
    simp [OpF.ids, zF] at hx
theorem fld_forth {t : Int} {l : List UInt8} {p q : Nat} {f : OpF} (h : gFld t l p = .inl (f, q)) (hp : p ≤ l.length) (h0 : kindN t ≠ 0) (h5 : kindN t ≠ 5) (h14 : t ≠ 14) (h22 : t ≠ 22) (h101 : t ≠ 101) : Bk l p q (fldB f) ∧ f.t = t ∧ OwnOk f 0 := by
  have htt := kind_types h0
  simp only [ownTypes, List.mem_cons, List.not_mem_nil, or_false] at htt
  rcases htt with rfl | rfl | rfl | rfl | rfl | rfl | rfl | rfl | rfl | rfl | rfl | rfl | rfl | rfl | rfl | rfl | rfl | rfl | rfl | rfl | rfl | rfl | rfl | rfl | rfl | rfl | rfl | rfl
  · exact forth_g0 (by decide) h hp
  · exact forth_g0 (by decide) h hp
  · exact forth_g0 (by decide) h hp
  · exact forth_g1 (by decide) h hp
  · exact forth_g2 (by decide) h hp
  · exact forth_g2 (by decide) h hp
  · exact forth_g3 (by decide) h hp
  · exact forth_g4 (by decide) h hp
  · exact forth_g5 (by decide) h hp
  · exact forth_g6 (by decide) h hp
  · exact absurd rfl h14
  · exact forth_g9 (by decide) h hp
  · exact forth_g10 (by decide) h hp
  · exact absurd (by decide) h5
  · exact forth_g7 (by decide) h hp
  · exact forth_g7 (by decide) h hp
  · exact forth_g7 (by decide) h hp
  · exact forth_g7 (by decide) h hp
  · exact forth_g6 (by decide) h hp
  · exact forth_g6 (by decide) h hp
  · exact forth_g6 (by decide) h hp
  · exact forth_g6 (by decide) h hp
  · exact forth_g8 (by decide) h hp
  · exact forth_g10 (by decide) h hp
  · exact forth_g8 (by decide) h hp
  · exact absurd rfl h22
  · exact absurd rfl h101
  · exact forth_g10 (by decide) h hp
end Go.Proofs.YtpjjnmdfgcfnmaaGreatDoor
