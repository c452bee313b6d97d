/- How much there is of what was read of so many bytes; rows of requests: plain. -/
import Derived.Test.YtpjjnmdfgcfnmaaDoorOq31
set_option linter.unusedVariables false
set_option linter.unusedSimpArgs false
namespace Go.Proofs.YtpjjnmdfgcfnmaaDoor
open Go.RowKit

theorem req_forth {l : List UInt8} {z : Int} {x : OpC} {q : Nat} (h : gReq l 0 = .inl ((z, x), q)) : Bk l 0 q (encB z x) ∧ x.rightE = 0 ∧ kindN x.f.t ≠ 5 ∧ (Lit.int .i32 z).wf = true := by
  unfold gReq at h
  obtain ⟨z', q1, h1, h⟩ := bind_inl h
  obtain ⟨t, q2, h2, h⟩ := bind_inl h
  obtain ⟨x', h3, he⟩ := map_inl h
  simp only [Prod.mk.injEq] at he
  obtain ⟨rfl, rfl⟩ := he
  unfold gOp at h3
  obtain ⟨⟨y, k'⟩, h4, he⟩ := map_inl h3
  dsimp only at he
  subst he
  have b1 := int_bk h1
  have b2 := int_bk h2
  obtain ⟨c1, c2, c3, c4, c5, c6, c7⟩ := op_forth (subs_forth _) h4 b2.2.2 ⟨by decide, by decide, by decide⟩ (fun _ => by decide)
  refine ⟨?_, ?_, by rw [c2]; exact c7, gInt_wf h1⟩
  · unfold encB
    rw [c2]
    exact (b1.app b2).app c1
  · obtain ⟨f, S⟩ := y
    have c6 : 0 + (OpC.mk f S).depth ≤ 8 := c6
    refine rightE_mk c3 (by omega) ?_ ?_
    · rw [OpC.parts]
      unfold OpC.after OpC.f OpC.S at c4
      dsimp only at c4
      split
      · rename_i ht
        rw [if_pos ht] at c4
        have := c5.parts
        rw [c4] at this
        dsimp only at this
        omega
      · omega
    · rw [OpC.multis]
      unfold OpC.after OpC.f OpC.S at c4
      dsimp only at c4
      split
      · rename_i ht
        rw [if_pos ht] at c4
        have := c5.multis
        rw [c4] at this
        dsimp only at this
        omega
      · omega
theorem dec_forth {l : List UInt8} {z : Int} {x : OpC} (h : decO l = .inr (z, x)) : l = encB z x ∧ x.rightE = 0 ∧ x.encE = 0 ∧ (Lit.int .i32 z).wf = true := by
  unfold decO at h
  split at h
  · cases h
  rename_i y q hq
  split at h
  · cases h
  rename_i hlt
  simp only [Sum.inr.injEq] at h
  subst h
  obtain ⟨h1, h2, h3, h4⟩ := req_forth hq
  refine ⟨?_, h2, ?_, h4⟩
  · have hql : q = l.length := by have := h1.2.2; omega
    have := h1.1
    rw [hql, Nat.sub_zero, List.drop_zero, List.take_length] at this
    exact this.symm
  · unfold OpC.encE
    rw [h2, if_neg (by simp), if_neg h3]
/-- bytes with an end cut off are none -/
theorem dec_cut {z : Int} {x : OpC} (h : x.encE = 0) (hg : x.good) (hz : (Lit.int .i32 z).wf = true) {n : Nat} (hn : n < (encB z x).length) {y : Int × OpC} (hgy : ∀ w x', decO ((encB z x).take n) = .inr (w, x') → x'.good) : decO ((encB z x).take n) ≠ .inr y := by
  intro hd
  obtain ⟨w, x'⟩ := y
  obtain ⟨h1, _, h3, h4⟩ := dec_forth hd
  have h5 := dec_more h3 (hgy w x' hd) h4 (rest := (encB z x).drop n) (by rw [List.length_drop]; omega)
  rw [← h1, List.take_append_drop, dec_back h hg hz] at h5
  cases h5
theorem bulkS_ge (L : List ByteArray) : bulkS L ≤ (bTexts L).length := by
  unfold bTexts bulkS
  induction L with
  | nil => simp
  | cons x r ih =>
    rw [List.flatMap_cons, List.length_append, List.map_cons, List.sum_cons, bBuf_len, ← bsize_eq]
    omega
theorem bulkI_ge (L : List (ByteArray × ByteArray)) : bulkI L ≤ (pIdsB L).length := by
  unfold pIdsB bulkI
  induction L with
  | nil => simp
  | cons x r ih =>
    rw [List.flatMap_cons, List.length_append, List.map_cons, List.sum_cons, pIdB_len]
    omega
theorem bulkA_ge (L : List AclT) : bulkA L ≤ (pAclsB L).length := by
  unfold pAclsB bulkA
  induction L with
  | nil => simp
  | cons x r ih =>
    rw [List.flatMap_cons, List.length_append, List.map_cons, List.sum_cons, pAclB_len]
    omega
set_option maxHeartbeats 2000000 in
theorem fld_bulk {f : OpF} {n : Nat} (h : OwnOk f n) (h20 : f.t ≠ 20) : f.bulk ≤ 20 + (fldB f).length := by
  have hk := h.kept
  have htt := kind_types h.kind
  obtain ⟨t, p, l, L, fl, ve, wa, ct, by_, tl, zx, K0, K1, K2, K3, K4, to_, I⟩ := f
  dsimp only at h20 htt
  have a0 := bulkS_ge K0
  have a1 := bulkS_ge K1
  have a2 := bulkS_ge K2
  have a3 := bulkS_ge K3
  have a4 := bulkS_ge K4
  have a5 := bulkI_ge I
  have a6 := bulkA_ge L
  have a7 := bsize_eq p
  simp only [ownTypes, List.mem_cons, List.not_mem_nil, or_false] at htt
  have hz : bulkA [] = 0 ∧ bulkS [] = 0 ∧ bulkI [] = 0 := ⟨rfl, rfl, rfl⟩
  obtain ⟨z1, z2, z3⟩ := hz
  have zb : (⟨#[]⟩ : ByteArray).size = 0 := rfl
  unfold keptF at hk
  rcases htt with rfl | rfl | rfl | rfl | rfl | rfl | rfl | rfl | rfl | rfl | rfl | rfl | rfl | rfl | rfl | rfl | rfl | rfl | rfl | rfl | rfl | rfl | rfl | rfl | rfl | rfl | rfl | rfl
  all_goals
    simp [tP, tD, tA, tF, tV, tW, tC, tL, tZ, tT] at hk
    unfold OpF.bulk fldB pListsB OpF.lists
    dsimp only
    simp [bBuf_len, bInt_len, bLong_len, bBool, List.flatMap_cons, hk, z1, z2, z3, zb, ← a7] at *
    try first | omega | (rw [zb, ByteArray.size_empty]; omega) | (rw [zb, ByteArray.size_empty])
mutual
theorem OpC.bulk_ge : ∀ x : OpC, x.allE = 0 → kindN x.f.t ≠ 5 → x.bulk ≤ 20 + 3 * x.putB.length
  | .mk f S, h, h5 => by
    obtain ⟨h1, h2⟩ := all_parts h
    rw [OpC.bulk, OpC.putB]
    by_cases ht : f.t = 14 ∨ f.t = 22
    · rw [if_pos ht, List.length_append, hdrB_len]
      have hs := subsB_ge S f.t h2
      have hb : f.bulk ≤ 20 + (fldB f).length := fld_bulk h1 (by rcases ht with ht | ht <;> rw [ht] <;> decide)
      have hf : fldB f = [] := by
        unfold fldB
        rcases ht with ht | ht <;> rw [ht] <;> rfl
      rw [hf] at hb
      simp only [List.length_nil] at hb
      omega
    · rw [if_neg ht]
      have h0 : S = [] := List.eq_nil_of_length_eq_zero (h1.none (by simp only [tS, List.mem_cons, List.not_mem_nil, or_false]; exact ht))
      subst h0
      have hb : f.bulk ≤ 20 + (fldB f).length := fld_bulk h1 (fun e => h5 (by show kindN f.t = 5; rw [e]; decide))
      rw [bulkL]
      omega
theorem subsB_ge : ∀ (S : List OpC) (i : Int), allL i S = 0 → bulkL S ≤ 3 * (subsB S).length
  | [], i, _ => by rw [bulkL]; exact Nat.zero_le _
  | x :: r, i, h => by
    obtain ⟨h1, h2, h3⟩ := allL_cons h
    have a := OpC.bulk_ge x h2 (may_kind h1).2.1
    have b := subsB_ge r i h3
    rw [bulkL, subsB, List.length_append, List.length_append, hdrB_len]
    omega
end
theorem dec_bulk {l : List UInt8} {z : Int} {x : OpC} (h : decO l = .inr (z, x)) : x.bulk ≤ 20 + 3 * l.length := by
  obtain ⟨h1, h2, h3, _⟩ := dec_forth h
  have h4 := OpC.bulk_ge x (rightE_parts h2).1 (encE_parts h3).2
  rw [h1]
  unfold encB
  rw [List.length_append]
  omega
theorem enc_len {z : Int} {x : OpC} (h : x.bulk ≤ 1048576) : (encB z x).length ≤ 6000000 := by
  have := x.putB_le
  unfold encB
  simp only [List.length_append, bInt_len]
  omega
theorem enc_pos (z : Int) (x : OpC) : 0 < (encB z x).length := by
  unfold encB
  simp only [List.length_append, bInt_len]
  omega
theorem ReqRow.ct {w w0 : World} {lo : Option Nat} {g : Nat} {z : Int} {x : OpC} {cs : List Value} (h : ReqRow w g z x cs) (ha : At w0 lo x cs) : w.cell? ⟨g, 1, none⟩ = some (.int .i32 x.f.t) := blk_cell h.blk 1 (by have := ha.c0; simpa using this)
/-- nothing -/
def zOp : OpC := .mk (zF 0) []
theorem zOp_at (w : World) : At w none zOp ((zF 0).row nilS nilS nilS nilS nilS nilS nilS nilS nilS) := (At.mk (w := w) (lo := some 0) (zF 0) nilS nilS nilS nilS nilS nilS nilS nilS nilS [] (zF_ok rfl) (SlAt.zero _ _ _ _ _) (SlAt.zero _ _ _ _ _) (SlAt.zero _ _ _ _ _) (SlAt.zero _ _ _ _ _) (SlAt.zero _ _ _ _ _) (SlAt.zero _ _ _ _ _) (SlAt.zero _ _ _ _ _) (SlAt.zero _ _ _ _ _) (SlAt.zero _ _ _ _ _) (fun _ h => (nomatch h))).any
end Go.Proofs.YtpjjnmdfgcfnmaaDoor
