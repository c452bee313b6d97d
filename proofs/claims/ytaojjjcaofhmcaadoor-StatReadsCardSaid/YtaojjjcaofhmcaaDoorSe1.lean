/- A node's record read back; what was read is written as it was; a Stat's likewise: plain. -/
import Derived.Test.YtaojjjcaofhmcaaDoorSj1
import Derived.Test.YtaojjjcaofhmcaaDoorSv0
import Derived.Test.YtaojjjcaofhmcaaDoorSn4
import Derived.Test.YtaojjjcaofhmcaaDoorSd5
set_option linter.unusedVariables false
set_option linter.unusedSimpArgs false
namespace Go.Proofs.YtaojjjcaofhmcaaDoor
open Go.RowKit

theorem bind_eq {α β : Type} {f : Rg α} {g : α → Rg β} {l : List UInt8} {p q : Nat} {x : α} (h : f l p = .inl (x, q)) : (f.bind g) l p = g x l q := by unfold Rg.bind; rw [h]
theorem map_eq {α β : Type} {f : α → β} {g : Rg α} {l : List UInt8} {p q : Nat} {x : α} (h : g l p = .inl (x, q)) : (g.map f) l p = .inl (f x, q) := by unfold Rg.map; rw [h]
theorem bs_of (s : ByteArray) : bs s.data.toList = s := by cases s; simp [bs]
theorem bs_list (x : List UInt8) : (bs x).data.toList = x := by simp [bs]
theorem wrap64_of {z : Int} (h : -9223372036854775808 ≤ z ∧ z ≤ 9223372036854775807) : wrap64 z = z := by unfold wrap64; omega
theorem wrap32_of {z : Int} (h : -2147483648 ≤ z ∧ z ≤ 2147483647) : wrap32 z = z := by unfold wrap32; omega
theorem text_atb {l : List UInt8} {p : Nat} {b : List UInt8} {most : Int} (h : Atb l p (bBuf b)) (hn : b.length ≤ 2147483647) (hm : (b.length : Int) ≤ most) (hv : Lib.validD b = true) : gText most l p = .inl (b, p + 4 + b.length) := by
  unfold gText
  rw [buf_atb h hn hm]
  dsimp only
  rw [if_pos hv]
theorem many_atb {α : Type} {g : Rg α} {f : α → List UInt8} {l : List UInt8} : ∀ (L : List α) (p : Nat), (∀ x ∈ L, ∀ p, Atb l p (f x) → g l p = .inl (x, p + (f x).length)) → Atb l p (L.flatMap f) → gMany g L.length l p = .inl (L, p + (L.flatMap f).length)
  | [], p, _, _ => rfl
  | x :: r, p, hg, h => by
    rw [List.flatMap_cons] at h
    rw [List.length_cons, gMany_succ, hg x (by simp) p h.left]
    dsimp only
    rw [many_atb r _ (fun y hy => hg y (by simp [hy])) h.right, List.flatMap_cons, List.length_append, Nat.add_assoc]
theorem longs_atb {l : List UInt8} {p : Nat} {xs : List Int} (hx : ∀ z ∈ xs, wrap64 z = z) (h : Atb l p (bAll bLong xs)) : gMany gLong xs.length l p = .inl (xs, p + (bAll bLong xs).length) :=
  many_atb xs p (fun z hz p h => by rw [long_atb h, hx z hz, bLong_len]) h
theorem ints_atb {l : List UInt8} {p : Nat} {xs : List Int} (hx : ∀ z ∈ xs, wrap32 z = z) (h : Atb l p (bAll bInt xs)) : gMany gInt xs.length l p = .inl (xs, p + (bAll bInt xs).length) :=
  many_atb xs p (fun z hz p h => by rw [int_atb h, hx z hz, bInt_len]) h
theorem acl_atb {l : List UInt8} {p : Nat} {a : AclT} (h : Atb l p (aclB a)) (hg : aclBig a = false) (hb : aclBad a = false) (hz : wrap32 a.1 = a.1) : gAcl l p = .inl (a, p + (aclB a).length) := by
  obtain ⟨z, s, i⟩ := a
  unfold aclBig at hg
  unfold aclBad at hb
  simp only [Bool.or_eq_false_iff, decide_eq_false_iff_not, Bool.not_eq_false'] at hg hb
  have es := bsize_eq s
  have ei := bsize_eq i
  have h1 : Atb l p (bInt z) := Atb.left (Atb.left h)
  have h2 := Atb.right (Atb.left h)
  have h3 := Atb.right h
  simp only [List.length_append, bInt_len, bBuf_len] at h2 h3
  unfold gAcl
  rw [bind_eq (int_atb h1), hz, bind_eq (text_atb h2 (by omega) (by omega) hb.1)]
  rw [show p + (4 + (4 + s.data.toList.length)) = p + 4 + 4 + s.data.toList.length by omega] at h3
  rw [map_eq (text_atb h3 (by omega) (by omega) hb.2), bs_of, bs_of, aclB_len]
  dsimp only
  rw [show p + 4 + 4 + s.data.toList.length + 4 + i.data.toList.length = p + (12 + s.size + i.size) by omega]
theorem acls_le (L : List AclT) : 12 * L.length ≤ (aclsB L).length := by
  unfold aclsB
  induction L with
  | nil => simp
  | cons a r ih => rw [List.flatMap_cons, List.length_append, aclB_len, List.length_cons]; omega
theorem acls_atb {l : List UInt8} {p : Nat} {L : List AclT} (h : Atb l p (bInt L.length ++ aclsB L)) (hn : L.length ≤ 16) (hg : L.any aclBig = false) (hb : L.any aclBad = false) (hz : ∀ a ∈ L, wrap32 a.1 = a.1) : gGet 16 12 gAcl l p = .inl (L, p + 4 + (aclsB L).length) := by
  unfold gGet
  have h2 := h.right
  rw [bInt_len] at h2
  have hc : gCount 16 12 l p = .inl (L.length, p + 4) := by
    unfold gCount
    rw [size_atb h.left (by omega) (by omega)]
    dsimp only
    rw [if_neg]
    have h3 := h2.1
    have h4 := acls_le L
    intro ⟨_, h5⟩
    omega
  rw [bind_eq hc, many_atb L (p + 4) (fun a ha p h => acl_atb h (by rw [List.any_eq_false] at hg; simpa using hg a ha) (by rw [List.any_eq_false] at hb; simpa using hb a ha) (hz a ha)) h2]
  rfl
theorem rightE_parts {p : ByteArray} {dn : Nat} {L : List AclT} {h : Bool} {c b : Int} (hr : rightE p dn L h c b = 0) : okB p = true ∧ dn ≤ 1048575 ∧ L.length ≤ 16 ∧ L.any aclBig = false ∧ L.any aclBad = false := by
  unfold rightE rightB at hr
  split at hr
  · rename_i h1
    split at hr
    · cases hr
    · rename_i h2
      split at hr
      · cases hr
      · rename_i h3
        split at hr
        · cases hr
        · rename_i h4
          exact ⟨h1, by omega, by omega, by simpa using h3, by simpa using h4⟩
  · cases hr
/-- what was written of a node that may be is read back -/
theorem node_back (p : ByteArray) (l : List UInt8) (L : List AclT) (xs ys : List Int) (qh : Bool) (qc qb : Int) (hx : xs.length = 8) (hy : ys.length = 3) (hr : rightE p l.length L qh qc qb = 0)
    (hz : ∀ a ∈ L, wrap32 a.1 = a.1) (h8 : ∀ z ∈ xs, wrap64 z = z) (h3 : ∀ z ∈ ys, wrap32 z = z) (hc : wrap64 qc = qc) (hb : wrap64 qb = qb) :
    decN (nodeB p l L xs ys qh qc qb) = .inr ⟨p.data.toList, l, L, xs, ys, qh, qc, qb⟩ := by
  obtain ⟨g1, g2, g3, g4, g5⟩ := rightE_parts hr
  obtain ⟨g6, g7⟩ := ok_validD g1
  have ep := bsize_eq p
  obtain ⟨b, hbb⟩ : ∃ b, nodeB p l L xs ys qh qc qb = b := ⟨_, rfl⟩
  have ha : Atb b 0 (nodeB p l L xs ys qh qc qb) := by rw [hbb]; exact Atb.all b
  have hlen : b.length = (nodeB p l L xs ys qh qc qb).length := by rw [hbb]
  rw [hbb]
  unfold nodeB at ha hlen
  have a8 := ha.right
  have a7 := ha.left.right
  have a6 := ha.left.left.right
  have a5 := ha.left.left.left.right
  have a4 := ha.left.left.left.left.right
  have a3 := ha.left.left.left.left.left.right
  have a2 := ha.left.left.left.left.left.left.right
  have a1 := ha.left.left.left.left.left.left.left
  simp only [List.length_append, bBuf_len, bInt_len, bLong_len, bBool_len, Nat.zero_add] at a2 a3 a4 a5 a6 a7 a8 hlen
  have e1 := text_atb a1 (by omega) (most := 4096) (by omega) g6
  rw [Nat.zero_add] at e1
  have e2 := buf_atb a2 (by omega) (most := 1048575) (by omega)
  rw [show 4 + p.data.toList.length + 4 + l.length = 4 + p.data.toList.length + (4 + l.length) by omega] at e2
  have e3 := acls_atb a3 g3 g4 g5 hz
  rw [show 4 + p.data.toList.length + (4 + l.length) + 4 + (aclsB L).length = 4 + p.data.toList.length + (4 + l.length) + (4 + (aclsB L).length) by omega] at e3
  have e4 := longs_atb h8 a4
  rw [hx] at e4
  have e5 := ints_atb h3 a5
  rw [hy] at e5
  have e6 := bool_atb a6
  have e7 := long_atb a7
  rw [hc] at e7
  have e8 := long_atb a8
  rw [hb] at e8
  have hg : gNode b 0 = .inl (⟨p.data.toList, l, L, xs, ys, qh, qc, qb⟩, b.length) := by
    unfold gNode
    rw [bind_eq e1, bind_eq e2, bind_eq e3, bind_eq e4, bind_eq e5, bind_eq e6, bind_eq e7, map_eq e8, hlen]
  unfold decN
  rw [hg]
  dsimp only
  rw [if_neg (Nat.lt_irrefl _), bs_of, if_pos hr]

/-- what was read is these bytes -/
def Bk (l : List UInt8) (p q : Nat) (d : List UInt8) : Prop := d = (l.drop p).take (q - p) ∧ p ≤ q ∧ q ≤ l.length
theorem Bk.app {l : List UInt8} {p q r : Nat} {d e : List UInt8} (h1 : Bk l p q d) (h2 : Bk l q r e) : Bk l p r (d ++ e) := by
  obtain ⟨rfl, a1, a2⟩ := h1
  obtain ⟨rfl, b1, b2⟩ := h2
  refine ⟨?_, by omega, b2⟩
  rw [show r - p = (q - p) + (r - q) by omega, take_two, show p + (q - p) = q by omega]
theorem Bk.nil (l : List UInt8) (p : Nat) (h : p ≤ l.length) : Bk l p p [] := ⟨by simp, Nat.le_refl _, h⟩
theorem int_bk {l : List UInt8} {p q : Nat} {z : Int} (h : gInt l p = .inl (z, q)) : Bk l p q (bInt z) := by
  obtain ⟨h1, h2, h3⟩ := int_back h
  exact ⟨by rw [h1, h2, Nat.add_sub_cancel_left], by omega, h3⟩
theorem long_bk {l : List UInt8} {p q : Nat} {z : Int} (h : gLong l p = .inl (z, q)) : Bk l p q (bLong z) := by
  obtain ⟨h1, h2, h3⟩ := long_back h
  exact ⟨by rw [h1, h2, Nat.add_sub_cancel_left], by omega, h3⟩
theorem bool_bk {l : List UInt8} {p q : Nat} {b : Bool} (h : gBool l p = .inl (b, q)) : Bk l p q (bBool b) := by
  unfold gBool at h
  split at h
  · rename_i n q' hn
    split at h
    · cases h
    · rename_i hle
      simp only [Sum.inl.injEq, Prod.mk.injEq] at h
      obtain ⟨rfl, rfl⟩ := h
      obtain ⟨h1, rfl, h3⟩ := num_back hn
      refine ⟨?_, by omega, h3⟩
      rw [Nat.add_sub_cancel_left, ← h1]
      have hn2 : n = 0 ∨ n = 1 := by omega
      rcases hn2 with rfl | rfl <;> rfl
  · cases h
theorem many_bk {α : Type} {g : Rg α} {f : α → List UInt8} {l : List UInt8} (hg : ∀ x p q, g l p = .inl (x, q) → Bk l p q (f x)) : ∀ (n p q : Nat) (L : List α), p ≤ l.length → gMany g n l p = .inl (L, q) → Bk l p q (L.flatMap f)
  | 0, p, q, L, hp, h => by
    simp only [gMany, Rg.ret, Sum.inl.injEq, Prod.mk.injEq] at h
    obtain ⟨rfl, rfl⟩ := h
    exact Bk.nil l p hp
  | n + 1, p, q, L, hp, h => by
    rw [gMany_succ] at h
    split at h
    · rename_i x q1 hx
      split at h
      · rename_i r q2 hr
        simp only [Sum.inl.injEq, Prod.mk.injEq] at h
        obtain ⟨rfl, rfl⟩ := h
        have h1 := hg _ _ _ hx
        rw [List.flatMap_cons]
        exact h1.app (many_bk hg n q1 q2 r h1.2.2 hr)
      · cases h
    · cases h
theorem acl_bk {l : List UInt8} {p q : Nat} {a : AclT} (h : gAcl l p = .inl (a, q)) : Bk l p q (aclB a) := by
  obtain ⟨z, q1, h1, h⟩ := bind_inl h
  obtain ⟨s, q2, h2, h⟩ := bind_inl h
  obtain ⟨i, h3, rfl⟩ := map_inl h
  unfold aclB
  rw [bs_list, bs_list]
  exact ((int_bk h1).app (text_back h2)).app (text_back h3)
/-- what was read of a node is written as it was -/
theorem node_forth {l : List UInt8} {q : Nat} {x : NdR} (h : gNode l 0 = .inl (x, q)) : Bk l 0 q (nodeB (bs x.p) x.l x.L x.xs x.ys x.h x.c x.b) ∧ x.xs.length = 8 ∧ x.ys.length = 3 := by
  obtain ⟨s, q1, h1, h⟩ := bind_inl h
  obtain ⟨d, q2, h2, h⟩ := bind_inl h
  obtain ⟨L, q3, h3, h⟩ := bind_inl h
  obtain ⟨xs, q4, h4, h⟩ := bind_inl h
  obtain ⟨ys, q5, h5, h⟩ := bind_inl h
  obtain ⟨b, q6, h6, h⟩ := bind_inl h
  obtain ⟨c, q7, h7, h⟩ := bind_inl h
  obtain ⟨e, h8, rfl⟩ := map_inl h
  obtain ⟨n, q8, hc, hm⟩ := bind_inl h3
  have hcb := count_back hc
  have hlen := gMany_len n q8 L q3 hm
  have k3 : Bk l q2 q3 (bInt L.length ++ aclsB L) := by
    have hb : Bk l q2 q8 (bInt L.length) := ⟨by rw [hlen, hcb.1, hcb.2.1, Nat.add_sub_cancel_left], by omega, hcb.2.2⟩
    exact hb.app (many_bk (fun a p q h => acl_bk h) n q8 q3 L hcb.2.2 hm)
  have k4 : Bk l q3 q4 (bAll bLong xs) := many_bk (fun z p q h => long_bk h) 8 q3 q4 xs k3.2.2 h4
  have k5 : Bk l q4 q5 (bAll bInt ys) := many_bk (fun z p q h => int_bk h) 3 q4 q5 ys k4.2.2 h5
  refine ⟨?_, gMany_len 8 q3 xs q4 h4, gMany_len 3 q4 ys q5 h5⟩
  unfold nodeB
  dsimp only
  rw [bs_list]
  exact ((((((Bk.app (text_back h1) (buf_back h2)).app k3).app k4).app k5).app (bool_bk h6)).app (long_bk h7)).app (long_bk h8)
theorem decN_inr {l : List UInt8} {x : NdR} (h : decN l = .inr x) : nodeB (bs x.p) x.l x.L x.xs x.ys x.h x.c x.b = l ∧ rightE (bs x.p) x.l.length x.L x.h x.c x.b = 0 ∧ x.xs.length = 8 ∧ x.ys.length = 3 := by
  unfold decN at h
  split at h
  · cases h
  · rename_i y q hy
    obtain ⟨⟨h1, _, h2⟩, h3, h4⟩ := node_forth hy
    split at h
    · cases h
    · rename_i hq
      split at h
      · rename_i hr
        injection h with h
        subst h
        refine ⟨?_, hr, h3, h4⟩
        rw [h1, show q - 0 = l.length by omega]
        simp
      · cases h
/-- a Stat's record -/
theorem stat_back (a0 a1 a2 a3 a4 a5 a6 a7 a8 a9 a10 : Int) (h8 : ∀ z ∈ [a0, a1, a2, a3], wrap64 z = z) (h3 : ∀ z ∈ [a4, a5, a6], wrap32 z = z) (g7 : wrap64 a7 = a7) (g8 : wrap32 a8 = a8) (g9 : wrap32 a9 = a9) (g10 : wrap64 a10 = a10) :
    decS (recB a0 a1 a2 a3 a4 a5 a6 a7 a8 a9 a10) = .inr ⟨[a0, a1, a2, a3], [a4, a5, a6], a7, a8, a9, a10⟩ := by
  obtain ⟨b, hbb⟩ : ∃ b, recB a0 a1 a2 a3 a4 a5 a6 a7 a8 a9 a10 = b := ⟨_, rfl⟩
  have ha : Atb b 0 (recB a0 a1 a2 a3 a4 a5 a6 a7 a8 a9 a10) := by rw [hbb]; exact Atb.all b
  have hlen : b.length = 68 := by rw [← hbb, recB_len]
  rw [hbb]
  unfold recB at ha
  have l4 : (bAll bLong [a0, a1, a2, a3]).length = 32 := by rw [bLongs_le]; rfl
  have l3 : (bAll bInt [a4, a5, a6]).length = 12 := by rw [bInts_le]; rfl
  have a6' := ha.right
  have a5' := ha.left.right
  have a4' := ha.left.left.right
  have a3' := ha.left.left.left.right
  have a2' := ha.left.left.left.left.right
  have a1' := ha.left.left.left.left.left
  simp only [List.length_append, l4, l3, bInt_len, bLong_len, Nat.zero_add, Nat.reduceAdd] at a2' a3' a4' a5' a6'
  have e1 := longs_atb h8 a1'
  rw [l4] at e1
  have e2 := ints_atb h3 a2'
  rw [l3] at e2
  have e3 := long_atb a3'
  rw [g7] at e3
  have e4 := int_atb a4'
  rw [g8] at e4
  have e5 := int_atb a5'
  rw [g9] at e5
  have e6 := long_atb a6'
  rw [g10] at e6
  have hg : gStat b 0 = .inl (⟨[a0, a1, a2, a3], [a4, a5, a6], a7, a8, a9, a10⟩, 68) := by
    unfold gStat
    rw [show (4 : Nat) = [a0, a1, a2, a3].length from rfl, show (3 : Nat) = [a4, a5, a6].length from rfl, bind_eq e1, bind_eq e2, bind_eq e3, bind_eq e4, bind_eq e5, map_eq e6]
  unfold decS
  rw [hg]
  dsimp only
  rw [if_neg (by omega)]
end Go.Proofs.YtaojjjcaofhmcaaDoor
