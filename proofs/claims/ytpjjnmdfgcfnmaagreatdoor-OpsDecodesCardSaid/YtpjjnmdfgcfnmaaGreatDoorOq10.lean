/- ops.Clone: an operation in new memory. (printed by gen_p10.py) -/
import Derived.Test.YtpjjnmdfgcfnmaaGreatDoorOqe
import Derived.LoopN
set_option linter.unusedVariables false
set_option linter.unusedSimpArgs false
namespace Go.Proofs.YtpjjnmdfgcfnmaaGreatDoor
open Go.RowKit

theorem KSt.start {w : World} {f : OpF} {d a i s : Sl} {ks : List Sl} {cs old : Array Value} (hcs : cs = (f.rowL d a ks i s).toArray) (hl : ks.length = 5) (ho : old.size = 19) : KSt w f d a ks i s ((w.alloc (.cells cs 29)).alloc (.cells old 29)) :=
  ⟨by rw [hcs]; exact (Blk.new _ _ _).alloc _, ⟨old, Blk.new' (by simp), ho⟩, ((Below.refl _ _).alloc (Nat.le_refl _) _).alloc (by simp) _, by simp, hl⟩
theorem KSt.kv {w W : World} {f : OpF} {d a i s : Sl} {ks : List Sl} (h : KSt w f d a ks i s W) : ∀ j v, (ks.map Sl.v)[j]? = some v → W.cell? ((⟨w.heap.size, 11, none⟩ : Addr).add j) = some v := fun j v hv => by
  rw [Go.WideShapes.add_plain]
  rw [List.getElem?_map] at hv
  cases hk : ks[j]? with
  | none => rw [hk] at hv; cases hv
  | some k =>
    rw [hk] at hv
    obtain ⟨hj, rfl⟩ := List.getElem?_eq_some_iff.1 hk
    injection hv with hv
    rw [← hv]
    exact h.ck hj
/-- the lists copied so far -/
def KLs (w : World) (f : OpF) (ks0 ks : List Sl) (j : Nat) (W : World) : Prop :=
  (∀ z (h : z < ks.length) (h5 : z < 5), z < j → SlAt W (some (w.heap.size + 2)) 9 1 16 ks[z] (f.lists[z]'h5).length (strCells (f.lists[z]'h5))) ∧ (∀ z, j ≤ z → ks[z]? = ks0[z]?)
theorem KLs.later {w W W' : World} {f : OpF} {ks0 ks : List Sl} {j : Nat} (h : KLs w f ks0 ks j W) (hb : Below W.heap.size W W') : KLs w f ks0 ks j W' := ⟨fun z hz h5 hj => (h.1 z hz h5 hj).later hb, h.2⟩
theorem KLs.grown {w W W' : World} {f : OpF} {ks0 ks : List Sl} {j g : Nat} (h : KLs w f ks0 ks j W) (hg : W.grownBy W' (some g)) (hlt : g < w.heap.size + 2) : KLs w f ks0 ks j W' := ⟨fun z hz h5 hj => (h.1 z hz h5 hj).grown hg hlt, h.2⟩
theorem KLs.set {w W : World} {f : OpF} {ks0 ks : List Sl} {j : Nat} {k' : Sl} (h : KLs w f ks0 ks j W) (hj : j < 5) (hk : SlAt W (some (w.heap.size + 2)) 9 1 16 k' (f.lists[j]'hj).length (strCells (f.lists[j]'hj))) : KLs w f ks0 (ks.set j k') (j + 1) W := by
  refine ⟨fun z hz h5 hzj => ?_, fun z hz => ?_⟩
  · rw [List.length_set] at hz
    rw [List.getElem_set]
    split
    · rename_i e
      subst e
      exact hk
    · exact h.1 z hz h5 (by omega)
  · rw [List.getElem?_set_ne (by omega)]
    exact h.2 z (by omega)
def Cloned (w : World) (x : OpC) (e : Ending) (w' : World) : Prop := ∃ cs' : List Value, e = .returned (.agg cs'.toArray) ∧ At w' (some w.heap.size) x cs' ∧ Below w.heap.size w w'
/-- the rows made so far -/
structure RSt (w : World) (b g : Nat) (c n : Nat) (Q R : List (OpC × List Value)) (j : Nat) (W : World) : Prop where
  own : W.ownsRow b 29 19 (.slice (some ⟨g, 0, none⟩) n c) n (R.flatMap Prod.snd)
  len : R.length = Q.length
  fst : R.map Prod.fst = Q.map Prod.fst
  low : b ≤ g
  done : ∀ z (h : z < R.length), z < j → At W (some (g + 1)) (R[z]).1 (R[z]).2
  rest : ∀ z, j ≤ z → R[z]? = Q[z]?
  rows : ∀ r ∈ R, r.2.length = 19
theorem RSt.later {w W W' : World} {b g c n j : Nat} {Q R : List (OpC × List Value)} (h : RSt w b g c n Q R j W) (hb : Below W.heap.size W W') : RSt w b g c n Q R j W' :=
  ⟨own_below h.own hb, h.len, h.fst, h.low, fun z hz hj => (h.done z hz hj).later hb, h.rest, h.rows⟩
theorem RSt.row {w W : World} {b g c n j : Nat} {Q R : List (OpC × List Value)} (h : RSt w b g c n Q R j W) {z : Nat} (hz : z < R.length) (hn : R.length = n) : ∀ k v, (R[z]).2[k]? = some v → W.cell? ((⟨g, z * 19, none⟩ : Addr).add k) = some v := fun k v hv => by
  have hr := Reads.of_own h.own
  obtain ⟨ad, hA, _, hc⟩ := hr.2 (by omega)
  injection hA with hA
  subst hA
  have hk19 : k < 19 := by
    have := (List.getElem?_eq_some_iff.1 hv).1
    rwa [h.rows _ (List.getElem_mem hz)] at this
  have := hc (z * 19 + k) v ((subs_row R h.rows z hz k hk19).trans hv)
  rw [Go.WideShapes.add_plain] at this ⊢
  rw [Nat.zero_add] at this
  exact this
theorem RSt.grown {w W W' : World} {b g g' c n j : Nat} {Q R : List (OpC × List Value)} (h : RSt w b g c n Q R j W) (hg : W.grownBy W' (some g')) (hlt : g' < b) : RSt w b g c n Q R j W' :=
  ⟨own_grown h.own hg hlt, h.len, h.fst, h.low, fun z hz hj => (h.done z hz hj).grown rfl hg (by have := h.low; omega), h.rest, h.rows⟩
theorem RSt.blk {w W : World} {b g c n j : Nat} {Q R : List (OpC × List Value)} (h : RSt w b g c n Q R j W) (hn : R.length = n) : ∃ cur, Blk W g 29 cur ∧ n * 19 ≤ cur.size ∧ cur.toList.take (n * 19) = R.flatMap Prod.snd ∧ n ≤ c ∧ c ≤ maxLen ∧ cur.size = c * 19 := by
  rcases h.own.2 with ⟨h1, h2⟩ | ⟨g', cap, cur, h1, h2, h3, h4, h5, h6, h7⟩
  · cases h1
  · injection h1 with h1 _ h1'
    injection h1 with h1
    injection h1 with h1
    subst h1 h1'
    exact ⟨cur, h3, by rw [h6]; exact Nat.mul_le_mul_right _ h4, h7, h4, h5, h6⟩
/-- a row is stored -/
theorem RSt.set {w W W' : World} {b g c n j : Nat} {Q R : List (OpC × List Value)} (h : RSt w b g c n Q R j W) (hn : R.length = n) (hj : j < R.length) {x : OpC} {xc : List Value} (hx : At W (some (g + 1)) x xc) (hxe : x = (R[j]).1) {cur cur' : Array Value} (hcur : Blk W g 29 cur) (hB : Blk W' g 29 cur') (hl : cur'.toList = cur.toList.take (j * 19) ++ xc ++ cur.toList.drop (j * 19 + xc.length)) (hg : W.grownBy W' (some g)) :
    RSt w b g c n Q (R.set j (x, xc)) (j + 1) W' := by
  obtain ⟨cur0, h1, h2, h3, h4, h5, h6⟩ := h.blk hn
  have e : cur0 = cur := by
    unfold Blk at h1 hcur
    rw [h1] at hcur
    injection hcur with hcur
    injection hcur
  subst e
  have hxl : xc.length = 19 := hx.len
  have hrow := rows_set R j (x, xc) h.rows hxl hj
  have hfl : ∀ (R : List (OpC × List Value)), (∀ r ∈ R, r.2.length = 19) → (R.flatMap Prod.snd).length = R.length * 19 := fun R => by
    induction R with
    | nil => intro _; rfl
    | cons r R ih =>
      intro h
      rw [List.flatMap_cons, List.length_append, ih (fun x hx => h x (by simp [hx])), h r (by simp), List.length_cons]
      omega
  have hR := hfl R h.rows
  have hlen' : cur'.toList.length = cur0.toList.length := by
    rw [hl, List.length_append, List.length_append, List.length_take, List.length_drop, hxl, Array.length_toList]
    omega
  refine ⟨⟨?_, .inr ⟨g, c, cur', rfl, h.low, hB, h4, h5, ?_, ?_⟩⟩, by simp [h.len], ?_, h.low, fun z hz hzj => ?_, fun z hz => ?_, fun r hr => ?_⟩
  · rw [← hrow, ← h3]
    dsimp only
    simp only [List.length_append, List.length_take, List.length_drop, Array.length_toList, hxl]
    omega
  · rw [← h6]
    simpa using hlen'
  · rw [← hrow, hl, ← h3]
    dsimp only
    apply List.ext_getElem?
    intro k
    simp only [List.getElem?_append, List.length_append, List.length_take, Array.length_toList, List.getElem?_take, List.getElem?_drop, hxl]
    have e1 : min (j * 19) cur0.size = j * 19 := by omega
    have e2 : min (j * 19) (min (n * 19) cur0.size) = j * 19 := by omega
    rw [e1, e2]
    by_cases k1 : k < j * 19
    · simp only [if_pos k1, if_pos (show k < j * 19 + 19 by omega)]
      try (split <;> first | rfl | omega)
    · by_cases k2 : k < j * 19 + 19
      · simp only [if_neg k1, if_pos k2, if_pos (show k < n * 19 by omega)]
      · simp only [if_neg k1, if_neg k2]
        by_cases k3 : k < n * 19
        · rw [if_pos k3, if_pos (by omega)]
        · rw [if_neg k3, if_neg (by omega)]
  · rw [List.map_set, h.fst, hxe]
    apply List.ext_getElem?
    intro k
    rw [List.getElem?_set]
    split
    · rename_i e
      subst e
      rw [← h.fst]
      simp [hj]
    · rfl
  · rw [List.length_set] at hz
    rw [List.getElem_set]
    split
    · rename_i e
      subst e
      exact hx.grown rfl hg (by omega)
    · exact (h.done z hz (by omega)).grown rfl hg (by omega)
  · rw [List.getElem?_set_ne (by omega)]
    exact h.rest z (by omega)
  · rcases List.mem_or_eq_of_mem_set hr with hr | rfl
    · exact h.rows r hr
    · exact hxl

theorem SlAt.other {w w' : World} {b g : Nat} {e t : TypeId} {size bytes len : Nat} {s : Sl} {xs : List Value} {cs : Array Value} (h : SlAt w (some b) e size bytes s len xs) (hg : w.grownBy w' (some g)) (hB : Blk w g t cs) (hne : e ≠ t) : SlAt w' (some b) e size bytes s len xs := by
  have ho := (h.own b rfl).kept hg (.inr (own_blk_ne (h.own b rfl) hB hne))
  exact ⟨h.nil, h.le, h.cap, h.reach, h.len, Reads.of_own ho, fun c hc => by injection hc with hc; subst hc; exact ho⟩
theorem KLs.other {w W W' : World} {f : OpF} {ks0 ks : List Sl} {j g : Nat} {t : TypeId} {cs : Array Value} (h : KLs w f ks0 ks j W) (hg : W.grownBy W' (some g)) (hB : Blk W g t cs) (hne : 9 ≠ t) : KLs w f ks0 ks j W' := ⟨fun z hz h5 hj => (h.1 z hz h5 hj).other hg hB hne, h.2⟩
/-- all parts make an operation -/
theorem clone_end {w W : World} {f : OpF} {s1 s2 s3 s4 m0 m1 m2 m3 m4 : Sl} {ks0 : List Sl} {Q R : List (OpC × List Value)} (ok : f.Ok) (hk : KLs w f ks0 [m0, m1, m2, m3, m4] 5 W)
    (h1 : SlAt W (some (w.heap.size + 2)) 5 1 1 s1 f.l.length (bcells f.l)) (h2 : SlAt W (some (w.heap.size + 2)) 104 3 40 s2 f.L.length (aclCells f.L)) (h3 : SlAt W (some (w.heap.size + 2)) 102 2 32 s3 f.I.length (idCells f.I))
    (h4 : SlAt W (some (w.heap.size + 2)) 29 19 296 s4 R.length (R.flatMap Prod.snd)) (hR : ∀ r ∈ R, At W (some (w.heap.size + 2)) r.1 r.2) (hf : R.map Prod.fst = Q.map Prod.fst) :
    At W (some (w.heap.size + 2)) (.mk f (Q.map Prod.fst)) (f.rowL s1 s2 [m0, m1, m2, m3, m4] s3 s4) := by
  rw [← rowL_eq, ← hf]
  exact .mk f s1 s2 m0 m1 m2 m3 m4 s3 s4 R ok h1 h2 (hk.1 0 (by simp) (by decide) (by decide)) (hk.1 1 (by simp) (by decide) (by decide)) (hk.1 2 (by simp) (by decide) (by decide)) (hk.1 3 (by simp) (by decide) (by decide)) (hk.1 4 (by simp) (by decide) (by decide)) h3 h4 hR
theorem rowL_one {f : OpF} {d a i s : Sl} {ks : List Sl} (h : ks.length = 5) : (f.rowL d a ks i s).toArray.all (·.oneCell') = true := by
  obtain ⟨_, _, _, _, _, rfl⟩ := list5 h
  simp [OpF.rowL, Sl.v, Value.oneCell']

set_option maxRecDepth 100000 in
set_option maxHeartbeats 8000000 in
theorem clone_walk {lo : Option Nat} (f : OpF) (d a k0 k1 k2 k3 k4 i s : Sl) (Q : List (OpC × List Value)) (w : World) (ok : f.Ok) (h : FAt w lo f d a k0 k1 k2 k3 k4 i) (hs : SlAt w lo 29 19 296 s Q.length (Q.flatMap Prod.snd)) (hQ : ∀ q ∈ Q, At w lo q.1 q.2)
    (IH : ∀ q ∈ Q, ∀ W, Below w.heap.size w W → Calls Tryz.prog 31 #[.agg q.2.toArray] W (Cloned W q.1)) (cs : Array Value) (hcs : cs = (f.row d a k0 k1 k2 k3 k4 i s).toArray) :
    Calls Tryz.prog 31 #[.agg cs] w (Cloned w (.mk f (Q.map Prod.fst))) := by
  obtain ⟨w1, hw1⟩ : ∃ w1, w.alloc (.cells cs 29) = w1 := ⟨_, rfl⟩
  have HW1 := Lib.hid hw1.symm
  have hz1 : w1.heap.size = w.heap.size + 1 := by rw [← hw1]; simp
  have HCS : Hid (cs = (f.rowL d a [k0, k1, k2, k3, k4] i s).toArray) := hcs
  have HD : Hid (∀ W, Below w.heap.size w W → Calls Tryz.prog 66 #[.slice d.A d.n d.c] W fun e w' => ∃ s' : Sl, e = .returned (.slice s'.A s'.n s'.c) ∧ SlAt w' (some W.heap.size) 5 1 1 s' f.l.length (bcells f.l) ∧ Below W.heap.size W w') := fun W hW => bytesClone_any (h.d.later hW) (bcells_one _)
  have HA : Hid (∀ W, Below w.heap.size w W → Calls Tryz.prog 67 #[.slice a.A a.n a.c] W fun e w' => ∃ s' : Sl, e = .returned (.slice s'.A s'.n s'.c) ∧ SlAt w' (some W.heap.size) 104 3 40 s' f.L.length (aclCells f.L) ∧ Below W.heap.size W w') := fun W hW => aclsClone_any (h.a.later hW) (aclCells_one _)
  have HI : Hid (∀ W, Below w.heap.size w W → Calls Tryz.prog 68 #[.slice i.A i.n i.c] W fun e w' => ∃ s' : Sl, e = .returned (.slice s'.A s'.n s'.c) ∧ SlAt w' (some W.heap.size) 102 2 32 s' f.I.length (idCells f.I) ∧ Below W.heap.size W w') := fun W hW => idsClone_any (h.i.later hW) (idCells_one _)
  have HSS : Hid (∀ W, Below w.heap.size w W → Calls Tryz.prog 70 #[.slice s.A s.n s.c] W fun e w' => ∃ s' : Sl, e = .returned (.slice s'.A s'.n s'.c) ∧ SlAt w' (some W.heap.size) 29 19 296 s' Q.length (Q.flatMap Prod.snd) ∧ Below W.heap.size W w') := fun W hW => opsClone_any (hs.later hW) (opCells_one hQ)
  have HKS : Hid (∀ j (hj : j < 5) W, Below w.heap.size w W → SlAt W lo 9 1 16 ([k0, k1, k2, k3, k4][j]'hj) (f.lists[j]'hj).length (strCells (f.lists[j]'hj))) := fun j hj W hW => by
    rcases (by omega : j = 0 ∨ j = 1 ∨ j = 2 ∨ j = 3 ∨ j = 4) with rfl | rfl | rfl | rfl | rfl
    · exact h.k0.later hW
    · exact h.k1.later hW
    · exact h.k2.later hW
    · exact h.k3.later hW
    · exact h.k4.later hW
  have HQ := Lib.hid hQ
  have HIH := Lib.hid IH
  have HOK := Lib.hid ok
  have HSQ : Hid (Q.length = s.n) := hs.len
  have HREA : Hid (s.n * 296 ≤ reachBytes) := hs.reach
  clear hcs h hs hQ IH ok
  go_enter Tryz.func31, Tryz.ntmps31
  go_wp2_with (first
    | (refine wpList_new rfl 29 rfl zer_op ?_
       intro old hold
       obtain ⟨w2, hw2⟩ : ∃ w2, w1.alloc (.cells old 29) = w2 := ⟨_, rfl⟩
       rw [hw2]
       have HK2 : Hid (KSt w f d a [k0, k1, k2, k3, k4] i s w2) := by unfold Hid; rw [← hw2, ← hw1]; exact KSt.start HCS.out rfl hold
       have q2 := HK2.out.c2
       clear hw2 hold)
    | (go_at_call 66
       refine (HD.out _ HK2.out.below).mono ?_
       rintro e u3 ⟨s1, rfl, hs1, hb⟩
       have Hs1 := Lib.hid (hs1.lo HK2.out.size)
       have HK3 := Lib.hid (HK2.out.later hb)
       clear hb hs1 q2)
    | (with_reducible show wpList _ _ _ (Oper.mk none (.store _ (.tmp 10) _) _ _ _ _ :: _) _ _
       refine wpList_store_mid rfl 22 (.tmp 10) (.tmp 9) rfl w.heap.size 2 (.slice s1.A s1.n s1.c) rfl rfl HK3.out.blk (news := [.slice s1.A s1.n s1.c]) rfl isz_22 (by rw [HK3.out.asize]; exact (by decide : 2 + 1 ≤ 19)) (by simp [Value.oneCell']) ?_
       intro wn cn hBn hxn hgn hzn
       have HK4 : Hid (KSt w f s1 a [k0, k1, k2, k3, k4] i s wn) := HK3.out.put hBn hgn (hxn.trans rowL_d) HK3.out.len
       have HS1 := Lib.hid (Hs1.out.grown hgn (by omega))
       have q3 := HK4.out.c3
       clear hBn hxn hgn hzn)
    | (go_at_call 67
       refine (HA.out _ HK4.out.below).mono ?_
       rintro e u5 ⟨s2, rfl, hs2, hb⟩
       have Hs2 := Lib.hid (hs2.lo HK4.out.size)
       have HK5 := Lib.hid (HK4.out.later hb)
       have HS1a := Lib.hid (HS1.out.later hb)
       clear hb hs2 q3)
    | (with_reducible show wpList _ _ _ (Oper.mk none (.store _ (.tmp 14) _) _ _ _ _ :: _) _ _
       refine wpList_store_mid rfl 23 (.tmp 14) (.tmp 13) rfl w.heap.size 3 (.slice s2.A s2.n s2.c) rfl rfl HK5.out.blk (news := [.slice s2.A s2.n s2.c]) rfl isz_23 (by rw [HK5.out.asize]; exact (by decide : 3 + 1 ≤ 19)) (by simp [Value.oneCell']) ?_
       intro wn cn hBn hxn hgn hzn
       have HK6 : Hid (KSt w f s1 s2 [k0, k1, k2, k3, k4] i s wn) := HK5.out.put hBn hgn (hxn.trans rowL_a) HK5.out.len
       have HS1b := Lib.hid (HS1a.out.grown hgn (by omega))
       have HS2 := Lib.hid (Hs2.out.grown hgn (by omega))
       have q17 := HK6.out.c17
       clear hBn hxn hgn hzn)
    | (go_at_call 68
       refine (HI.out _ HK6.out.below).mono ?_
       rintro e u7 ⟨s3, rfl, hs3, hb⟩
       have Hs3 := Lib.hid (hs3.lo HK6.out.size)
       have HK7 := Lib.hid (HK6.out.later hb)
       have HS1c := Lib.hid (HS1b.out.later hb)
       have HS2a := Lib.hid (HS2.out.later hb)
       clear hb hs3 q17)
    | (with_reducible show wpList _ _ _ (Oper.mk none (.store _ (.tmp 18) _) _ _ _ _ :: _) _ _
       refine wpList_store_mid rfl 26 (.tmp 18) (.tmp 17) rfl w.heap.size 17 (.slice s3.A s3.n s3.c) rfl rfl HK7.out.blk (news := [.slice s3.A s3.n s3.c]) rfl isz_26 (by rw [HK7.out.asize]; exact (by decide : 17 + 1 ≤ 19)) (by simp [Value.oneCell']) ?_
       intro wn cn hBn hxn hgn hzn
       have HK8 : Hid (KSt w f s1 s2 [k0, k1, k2, k3, k4] s3 s wn) := HK7.out.put hBn hgn (hxn.trans (rowL_i HK7.out.len)) HK7.out.len
       have HS1d := Lib.hid (HS1c.out.grown hgn (by omega))
       have HS2b := Lib.hid (HS2a.out.grown hgn (by omega))
       have HS3 := Lib.hid (Hs3.out.grown hgn (by omega))
       clear hBn hxn hgn hzn)
    | (refine wpList_load_at (by rfl) 25 (.tmp 19) rfl ⟨w.heap.size, 11, none⟩ rfl [k0.v, k1.v, k2.v, k3.v, k4.v] _ HK8.out.kv Tryz.underlying25 rfl isz_25 ?_))
  clear HK2 HK3 HK4 HK5 HK6 HK7 HD HA HI HS1 HS1a HS1b HS1c HS2 HS2a Hs1 Hs2 Hs3
  go_loopw [21] (fun v21 wr => ∃ (j : Nat) (ks : List Sl), j ≤ 5 ∧ v21 = .int .i64 j ∧ Hid (KSt w f s1 s2 ks s3 s wr) ∧ Hid (KLs w f [k0, k1, k2, k3, k4] ks j wr) ∧ Hid (SlAt wr (some (w.heap.size + 2)) 5 1 1 s1 f.l.length (bcells f.l)) ∧ Hid (SlAt wr (some (w.heap.size + 2)) 104 3 40 s2 f.L.length (aclCells f.L)) ∧ Hid (SlAt wr (some (w.heap.size + 2)) 102 2 32 s3 f.I.length (idCells f.I))) (fun v21 _ => 5 - (intOf v21).toNat)
  case atStart => exact ⟨0, [k0, k1, k2, k3, k4], by omega, rfl, HK8.out, ⟨fun z _ _ hz => absurd hz (by omega), fun z _ => rfl⟩, HS1d.out, HS2b.out, HS3.out⟩
  case round =>
    clear HK8 HS1d HS2b HS3
    obtain ⟨j, ks, hj, rfl, HKr, HLr, HS1r, HS2r, HS3r⟩ := hrel
    by_cases hlt : j < 5
    · have hix : ∀ W, (Instr.index 25 (.agg #[k0.v, k1.v, k2.v, k3.v, k4.v]) (.int .i64 (j : Int))).run Tryz.prog W = .ok (([k0, k1, k2, k3, k4][j]'hlt).v) W := fun W => by
        rcases (by omega : j = 0 ∨ j = 1 ∨ j = 2 ∨ j = 3 ∨ j = 4) with rfl | rfl | rfl | rfl | rfl <;> kernel_rfl
      have hk := HKS.out j hlt
      obtain ⟨kj, hkj⟩ : ∃ k, k = ([k0, k1, k2, k3, k4][j]'hlt) := ⟨_, rfl⟩
      rw [← hkj] at hix hk
      have hix2 : ∀ W, (Instr.index 25 (.agg #[k0.v, k1.v, k2.v, k3.v, k4.v]) (.int .i64 (j : Int))).run Tryz.prog W = .ok (.slice kj.A kj.n kj.c) W := hix
      clear hix
      have HC : Hid (∀ W, Below w.heap.size w W → Calls Tryz.prog 69 #[.slice kj.A kj.n kj.c] W fun e w' => ∃ s' : Sl, e = .returned (.slice s'.A s'.n s'.c) ∧ SlAt w' (some W.heap.size) 9 1 16 s' (f.lists[j]'hlt).length (strCells (f.lists[j]'hlt)) ∧ Below W.heap.size W w') := fun W hW => strsClone_any (hk W hW) (strCells_one _)
      clear hk hkj
      go_wp2_with (first
        | (go_at_call 69
           refine (HC.out _ HKr.out.below).mono ?_
           rintro e u ⟨k', rfl, hk', hb⟩
           have HK' := Lib.hid (hk'.lo HKr.out.size)
           have HKs := Lib.hid (HKr.out.later hb)
           have HLs := Lib.hid (HLr.out.later hb)
           have HS1s := Lib.hid (HS1r.out.later hb)
           have HS2s := Lib.hid (HS2r.out.later hb)
           have HS3s := Lib.hid (HS3r.out.later hb)
           clear hb hk')
        | (with_reducible show wpList _ _ _ (Oper.mk none (.store _ (.tmp 29) _) _ _ _ _ :: _) _ _
           refine wpList_store_mid rfl 24 (.tmp 29) (.tmp 27) rfl w.heap.size (11 + j) (.slice k'.A k'.n k'.c) rfl rfl HKs.out.blk (news := [.slice k'.A k'.n k'.c]) rfl isz_24 (by rw [HKs.out.asize]; show 11 + j + 1 ≤ 19; omega) (by simp [Value.oneCell']) ?_
           intro wn cn hBn hxn hgn hzn
           have HKt : Hid (KSt w f s1 s2 (ks.set j k') s3 s wn) := HKs.out.put hBn hgn (hxn.trans (rowL_k HKs.out.len hlt)) (by rw [List.length_set]; exact HKs.out.len)
           have HLt : Hid (KLs w f [k0, k1, k2, k3, k4] (ks.set j k') (j + 1) wn) := (HLs.out.grown hgn (by omega)).set hlt (HK'.out.grown hgn (by omega))
           have HS1t := Lib.hid (HS1s.out.grown hgn (by omega))
           have HS2t := Lib.hid (HS2s.out.grown hgn (by omega))
           have HS3t := Lib.hid (HS3s.out.grown hgn (by omega))
           clear hBn hxn hgn hzn))
      go_roundw
      case rel => exact ⟨j + 1, ks.set j k', by omega, by go_num, HKt.out, HLt.out, HS1t.out, HS2t.out, HS3t.out⟩
      case measure => simp [intOf]; omega
    · obtain rfl : j = 5 := by omega
      obtain ⟨m0, m1, m2, m3, m4, hks⟩ := list5 HKr.out.len
      subst hks
      clear hlt hj
      have q18 := HKr.out.c18
      by_cases hn0 : s.n = 0
      · have hnn : ((s.n : Nat) : Int) = 0 := by omega
        have HQN : Hid (Q = []) := List.eq_nil_of_length_eq_zero (by rw [HSQ.out]; exact hn0)
        have HN0 := Lib.hid hn0
        clear hn0 hnn
        go_wp2_with (first
          | (go_at_call 70
             refine (HSS.out _ HKr.out.below).mono ?_
             rintro e u ⟨s4, rfl, hs4, hb⟩
             have HS4 := Lib.hid (hs4.lo HKr.out.size)
             have HKs := Lib.hid (HKr.out.later hb)
             have HLs := Lib.hid (HLr.out.later hb)
             have HS1s := Lib.hid (HS1r.out.later hb)
             have HS2s := Lib.hid (HS2r.out.later hb)
             have HS3s := Lib.hid (HS3r.out.later hb)
             have H40 : Hid (s4.n = 0) := by unfold Hid; rw [← hs4.len, HSQ.out]; exact HN0.out
             clear hb hs4 q18)
          | (with_reducible show wpList _ _ _ (Oper.mk none (.store _ (.tmp 34) _) _ _ _ _ :: _) _ _
             refine wpList_store_mid rfl 27 (.tmp 34) (.tmp 33) rfl w.heap.size 18 (.slice s4.A s4.n s4.c) rfl rfl HKs.out.blk (news := [.slice s4.A s4.n s4.c]) rfl isz_27 (by rw [HKs.out.asize]; exact (by decide : 18 + 1 ≤ 19)) (by simp [Value.oneCell']) ?_
             intro wn cn hBn hxn hgn hzn
             have HKt : Hid (KSt w f s1 s2 [m0, m1, m2, m3, m4] s3 s4 wn) := HKs.out.put hBn hgn (hxn.trans (rowL_s HKs.out.len)) HKs.out.len
             have HLt := Lib.hid (HLs.out.grown hgn (by omega))
             have HS1t := Lib.hid (HS1s.out.grown hgn (by omega))
             have HS2t := Lib.hid (HS2s.out.grown hgn (by omega))
             have HS3t := Lib.hid (HS3s.out.grown hgn (by omega))
             have HS4t := Lib.hid (HS4.out.grown hgn (by omega))
             have q18 := HKt.out.c18
             clear hBn hxn hgn hzn))
        have HAT : Hid (At wn (some (w.heap.size + 2)) (.mk f (Q.map Prod.fst)) (f.rowL s1 s2 [m0, m1, m2, m3, m4] s3 s4)) :=
          clone_end HOK.out HLt.out HS1t.out HS2t.out HS3t.out HS4t.out (fun r hr => by rw [HQN.out] at hr; cases hr) rfl
        clear HKr HLr HS1r HS2r HS3r
        refine wp_loop_rounds 1 ?_
        rw [rounds_succ]
        clear q18 HKs HLs HS1s HS2s HS3s HS4 HS1t HS2t HS3t HS4t HLt
        have HKr := HKt
        have h40 := H40.out
        obtain ⟨zr, hz1', hz2'⟩ := HKr.out.res
        have HZR := Lib.hid hz1'
        have hzs : zr.size = 19 := hz2'
        have HINF : Hid ((Tryz.prog.info? 29).map (·.size) = some (f.rowL s1 s2 [m0, m1, m2, m3, m4] s3 s4).toArray.size) := by unfold Hid; rw [HKr.out.asize]; exact isz_29
        have HZS : Hid (zr.size = (f.rowL s1 s2 [m0, m1, m2, m3, m4] s3 s4).toArray.size) := by unfold Hid; rw [HKr.out.asize]; exact hzs
        clear hz1' hz2' hzs
        go_wp2_with (first
          | (refine wpList_load_row rfl 29 (.tmp 1) rfl w.heap.size rfl 29 _ _ _ HKr.out.blk Tryz.underlying29 rfl HINF.out ?_)
          | (refine wpList_store_row rfl 29 (.tmp 2) (.tmp 50) rfl (w.heap.size + 1) _ rfl rfl 29 _ HZR.out HINF.out HZS.out (rowL_one rfl) ?_
             generalize hww : World.setRow _ _ _ = wz
             have HGZ : Hid (wn.grownBy wz (some (w.heap.size + 1))) := by unfold Hid; rw [← hww]; exact only_setRow' _ _ _
             have HBZ : Hid (Blk wz (w.heap.size + 1) 29 (f.rowL s1 s2 [m0, m1, m2, m3, m4] s3 s4).toArray) := by unfold Hid; rw [← hww]; exact cells_setRow HZR.out
             clear hww))
        refine bodyPost_ret (results_cell_row rfl _ _ (w.heap.size + 1) 29 _ _ _ rfl HBZ.out Tryz.underlying29 rfl HINF.out) rfl ?_
        exact ⟨_, rfl, (HAT.out.grown rfl HGZ.out (by omega)).lo rfl (by omega), HKr.out.below.grown HGZ.out (by have := HKr.out.size; omega) (fun k hk => by injection hk with hk; omega)⟩
      have HN0 : Hid (0 < s.n) := Nat.pos_of_ne_zero hn0
      clear hn0
      go_wp2_with (first
        | (go_at_call 70
           refine (HSS.out _ HKr.out.below).mono ?_
           rintro e u ⟨s4, rfl, hs4, hb⟩
           have HS4 := Lib.hid (hs4.lo HKr.out.size)
           have HKs := Lib.hid (HKr.out.later hb)
           have HLs := Lib.hid (HLr.out.later hb)
           have HS1s := Lib.hid (HS1r.out.later hb)
           have HS2s := Lib.hid (HS2r.out.later hb)
           have HS3s := Lib.hid (HS3r.out.later hb)
           clear hb hs4 q18)
        | (with_reducible show wpList _ _ _ (Oper.mk none (.store _ (.tmp 34) _) _ _ _ _ :: _) _ _
           refine wpList_store_mid rfl 27 (.tmp 34) (.tmp 33) rfl w.heap.size 18 (.slice s4.A s4.n s4.c) rfl rfl HKs.out.blk (news := [.slice s4.A s4.n s4.c]) rfl isz_27 (by rw [HKs.out.asize]; exact (by decide : 18 + 1 ≤ 19)) (by simp [Value.oneCell']) ?_
           intro wn cn hBn hxn hgn hzn
           have HKt : Hid (KSt w f s1 s2 [m0, m1, m2, m3, m4] s3 s4 wn) := HKs.out.put hBn hgn (hxn.trans (rowL_s HKs.out.len)) HKs.out.len
           have HLt := Lib.hid (HLs.out.grown hgn (by omega))
           have HS1t := Lib.hid (HS1s.out.grown hgn (by omega))
           have HS2t := Lib.hid (HS2s.out.grown hgn (by omega))
           have HS3t := Lib.hid (HS3s.out.grown hgn (by omega))
           have HS4t := Lib.hid (HS4.out.grown hgn (by omega))
           have q18 := HKt.out.c18
           clear hBn hxn hgn hzn))
      have h4l : s4.n = Q.length := HS4t.out.len.symm
      obtain ⟨g, c4, h4v, h4b⟩ : ∃ g c4, s4 = ⟨some ⟨g, 0, none⟩, s.n, c4⟩ ∧ w.heap.size + 2 ≤ g := by
        obtain ⟨A4, n4, c4⟩ := s4
        dsimp only at h4l
        rcases (HS4t.out.own _ rfl).2 with ⟨_, h2⟩ | ⟨g, cap, cur, h1, h2, _⟩
        · dsimp only at h2
          have := HN0.out
          have := HSQ.out
          omega
        · unfold Sl.v at h1
          injection h1 with h1 _ h3
          subst h1
          exact ⟨g, c4, by rw [h4l, HSQ.out], h2⟩
      subst h4v
      clear h4l
      have HR0 : Hid (RSt w (w.heap.size + 2) g c4 s.n Q Q 0 wn) := ⟨HS4t.out.own _ rfl, rfl, rfl, h4b, fun z _ hz => absurd hz (by omega), fun _ _ => rfl, fun r hr => (HQ.out r hr).len⟩
      have HG := Lib.hid h4b
      have hbn : s.n ≤ 4611686018427387904 := HS4t.out.bd (by decide)
      clear h4b HKs HLs HS1s HS2s HS3s HKr HLr HS1r HS2r HS3r HS4 HS4t q18
      dsimp only at *
      go_loopw [38] (fun v38 wr => ∃ (j : Nat) (R : List (OpC × List Value)), j ≤ s.n ∧ v38 = .int .i64 j ∧ Hid (KSt w f s1 s2 [m0, m1, m2, m3, m4] s3 ⟨some ⟨g, 0, none⟩, s.n, c4⟩ wr) ∧ Hid (KLs w f [k0, k1, k2, k3, k4] [m0, m1, m2, m3, m4] 5 wr) ∧ Hid (SlAt wr (some (w.heap.size + 2)) 5 1 1 s1 f.l.length (bcells f.l)) ∧ Hid (SlAt wr (some (w.heap.size + 2)) 104 3 40 s2 f.L.length (aclCells f.L)) ∧ Hid (SlAt wr (some (w.heap.size + 2)) 102 2 32 s3 f.I.length (idCells f.I)) ∧ Hid (RSt w (w.heap.size + 2) g c4 s.n Q R j wr)) (fun v38 _ => s.n - (intOf v38).toNat)
      case atStart => exact ⟨0, Q, by omega, rfl, HKt.out, HLt.out, HS1t.out, HS2t.out, HS3t.out, HR0.out⟩
      case round =>
        clear HKt HLt HS1t HS2t HS3t HR0
        obtain ⟨j, R, hj, rfl, HKr, HLr, HS1r, HS2r, HS3r, HRr⟩ := hrel
        have q18 := HKr.out.c18
        dsimp only at q18
        by_cases hlt : j < s.n
        · have hjR : j < R.length := by rw [HRr.out.len, HSQ.out]; exact hlt
          have hjQ : j < Q.length := by rw [HSQ.out]; exact hlt
          have hxq : R[j]? = Q[j]? := HRr.out.rest j (Nat.le_refl _)
          have hxq' : R[j] = Q[j] := by rw [List.getElem?_eq_getElem hjR, List.getElem?_eq_getElem hjQ] at hxq; injection hxq
          have hrow := HRr.out.row hjR (by rw [HRr.out.len, HSQ.out]) 
          have hih := HIH.out _ (List.getElem_mem hjQ)
          have hat := HQ.out _ (List.getElem_mem hjQ)
          rw [hxq'] at hrow
          have HXE : Hid ((Q[j]).1 = (R[j]).1) := by unfold Hid; rw [hxq']
          obtain ⟨⟨x, xc⟩, hx⟩ : ∃ q, q = Q[j] := ⟨_, rfl⟩
          rw [← hx] at hrow hih hat HXE
          dsimp only at hrow hih hat HXE
          have HROW := Lib.hid hrow
          have HIX := Lib.hid hih
          have HJR := Lib.hid hjR
          have ZX : Hid ((Tryz.prog.info? 29).map (·.size) = some xc.length) := by unfold Hid; rw [hat.len]; exact isz_29
          have ZA : Hid ((Tryz.prog.info? 29).map (·.size) = some xc.toArray.size) := by unfold Hid; rw [List.size_toArray, hat.len]; exact isz_29
          have ZZ : Hid (((Tryz.prog.info? 29).bind (·.zero)).map (·.cells.size) = some xc.toArray.size) := by unfold Hid; rw [List.size_toArray, hat.len]; exact zer_op
          have ZO := Lib.hid hat.one
          obtain ⟨w2, hw2⟩ : ∃ w2, wr.alloc (.cells xc.toArray 29) = w2 := ⟨_, rfl⟩
          have HN2 : Hid (Blk w2 wr.heap.size 29 xc.toArray) := by unfold Hid; rw [← hw2]; exact Blk.new _ _ _
          have hb2 : Below wr.heap.size wr w2 := by rw [← hw2]; exact (Below.refl _ _).alloc (Nat.le_refl _) _
          have HK2 := Lib.hid (HKr.out.later hb2)
          have HL2 := Lib.hid (HLr.out.later hb2)
          have HS12 := Lib.hid (HS1r.out.later hb2)
          have HS22 := Lib.hid (HS2r.out.later hb2)
          have HS32 := Lib.hid (HS3r.out.later hb2)
          have HR2 := Lib.hid (HRr.out.later hb2)
          clear hx hxq hxq' hrow hih hat hjQ
          go_wp2_with (first
            | (refine wpList_load_at (by rfl) 29 (.tmp 41) rfl ⟨g, j * 19, none⟩ rfl xc _ HROW.out Tryz.underlying29 rfl ZX.out ?_)
            | (refine wpList_newrow1 rfl rfl rfl 29 rfl 6 rfl (.tmp 40) rfl 5 rfl (by decide) (.tmp 42) rfl rfl (.int .i64 (j : Int)) (fun _ => rfl) xc.toArray (fun _ => rfl) (show 6 < 51 by decide) ZZ.out ZA.out ZO.out ?_
               rw [hw2]))
          have CS : Hid (∀ {W}, Below w2.heap.size w2 W → W.cell? ⟨w.heap.size, 18, none⟩ = some (.slice (some ⟨g, 0, none⟩) s.n c4)) := fun {W} hW => (HK2.out.later hW).c18
          have CR : Hid (∀ {W}, Below w2.heap.size w2 W → ∀ k v, xc[k]? = some v → W.cell? ((⟨wr.heap.size, 0, none⟩ : Addr).add k) = some v) := fun {W} hW k v hk => by
            rw [Go.WideShapes.add_plain, Nat.zero_add, (HN2.out.below hW HN2.out.lt).cell k]
            simpa using hk
          have CJ : Hid (∀ W, Below w2.heap.size w2 W → Calls Tryz.prog 31 #[.agg xc.toArray] W fun e w' => ∃ v, e = .returned v ∧ (∃ xc' : List Value, v = .agg xc'.toArray ∧ At w' (some w2.heap.size) x xc') ∧ Below W.heap.size W w') := fun W hW => (HIX.out W (HK2.out.below.trans (hW.mono HK2.out.below.size))).mono fun e w' ⟨xc', h1, h2, h3⟩ => ⟨_, h1, ⟨xc', rfl, h2.lo rfl hW.size⟩, h3⟩
          clear q18 hw2 hb2 HKr HLr HS1r HS2r HS3r HRr
          obtain ⟨x43, H43⟩ : ∃ x : Value, Hid (x = .pointer (some ⟨w.heap.size, 18, none⟩)) := ⟨_, rfl⟩
          obtain ⟨x44, H44⟩ : ∃ x : Value, Hid (x = .slice (some ⟨g, 0, none⟩) s.n c4) := ⟨_, rfl⟩
          obtain ⟨x45, H45⟩ : ∃ x : Value, Hid (x = .int .i64 (j : Int)) := ⟨_, rfl⟩
          obtain ⟨x46, H46⟩ : ∃ x : Value, Hid (x = .agg xc.toArray) := ⟨_, rfl⟩
          refine wp_region_tail (w0 := w2) 6 rfl (.inl x43 ::
    .inl x44 ::
    .inl x45 ::
    .inl x46 ::
    .inr (fun v W => ∃ xc' : List Value, v = .agg xc'.toArray ∧ At W (some w2.heap.size) x xc') ::
    .inl (.pointer (some ⟨g, j * 19, none⟩)) :: []) rfl (by as_aux_lemma => kernel_rfl) (by as_aux_lemma => kernel_rfl) (by as_aux_lemma => kernel_rfl) (by as_aux_lemma => kernel_rfl) (by as_aux_lemma => kernel_rfl) (by
            intro p hp
            simp only [List.mem_cons, reduceCtorEq, Sum.inr.injEq, List.not_mem_nil, or_false, false_or] at hp
            subst hp
            rintro v W W' ⟨xc', h1, h2⟩ hb
            exact ⟨xc', h1, h2.later hb⟩) ⟨fun ac W hb hold hdep K hK => op_u (u := .pointer (some ⟨w.heap.size, 18, none⟩)) rfl (r_field 29 _ 14 rfl (eval_tmp ((hold 1 (free_slot (by as_aux_lemma => kernel_rfl))).trans rfl)) Tryz.underlying29 rfl (n := 0) isz_27 rfl) (hK _ _ H43.out.symm (Below.refl _ _)),
            fun ac W hb hold hdep K hK => op_u (u := .slice (some ⟨g, 0, none⟩) s.n c4) rfl (r_load 27 _ rfl (eval_tmp ((dep_val (hdep ⟨0, .data⟩ (by simp) rfl 43 rfl)).trans (congrArg some H43.out))) (CS.out hb) Tryz.underlying27 rfl) (hK _ _ H44.out.symm (Below.refl _ _)),
            fun ac W hb hold hdep K hK => op_u (u := .int .i64 (j : Int)) rfl (r_move _ rfl (eval_tmp ((hold 5 (free_slot (by as_aux_lemma => kernel_rfl))).trans rfl))) (hK _ _ H45.out.symm (Below.refl _ _)),
            fun ac W hb hold hdep K hK => op_u (u := .agg xc.toArray) rfl (r_load_row 29 _ rfl (eval_tmp ((hold 6 (free_slot (by as_aux_lemma => kernel_rfl))).trans rfl)) xc (CR.out hb) Tryz.underlying29 rfl ZX.out) (hK _ _ H46.out.symm (Below.refl _ _)),
            fun ac W hb hold hdep K hK => op_callR rfl 31 _ _ rfl (#[.agg xc.toArray]) (by simp [(eval_tmp ((dep_val (hdep ⟨3, .data⟩ (by simp) rfl 46 rfl)).trans (congrArg some H46.out)))]) Tryz.func31 (by as_aux_lemma => kernel_rfl) (by as_aux_lemma => kernel_rfl) (CJ.out W hb) (fun v w' hv hbl => hK _ _ hv hbl),
            fun ac W hb hold hdep K hK => op_u (u := .pointer (some ⟨g, j * 19, none⟩)) rfl (r_index 27 _ _ rfl (eval_tmp ((dep_val (hdep ⟨1, .data⟩ (by simp) rfl 44 rfl)).trans (congrArg some H44.out))) (eval_tmp ((dep_val (hdep ⟨2, .data⟩ (by simp) rfl 45 rfl)).trans (congrArg some H45.out))) hlt Tryz.underlying27 isz_29 (by rw [Go.WideShapes.add_plain, Nat.zero_add])) (hK _ _ rfl (Below.refl _ _)), trivial⟩ ?_
          intro w3 hb3
          simp only [Fin, List.take_succ_cons, List.take_zero, Act.put, List.setIfInBounds_toArray, List.set_cons_zero, List.set_cons_succ]
          rintro v47 ⟨xc', rfl, hx'⟩
          clear H43 H44 H45 H46
          have HK3 := Lib.hid (HK2.out.later hb3)
          have HL3 := Lib.hid (HL2.out.later hb3)
          have HS13 := Lib.hid (HS12.out.later hb3)
          have HS23 := Lib.hid (HS22.out.later hb3)
          have HS33 := Lib.hid (HS32.out.later hb3)
          have HR3 := Lib.hid (HR2.out.later hb3)
          have hgw : g < w2.heap.size := by
            obtain ⟨cur, h1, _⟩ := HR2.out.blk (by rw [HR2.out.len, HSQ.out])
            exact h1.lt
          have hx2 : At w3 (some (g + 1)) x xc' := hx'.lo rfl hgw
          obtain ⟨cur, hcur, hcn, _⟩ := HR3.out.blk (by rw [HR3.out.len, HSQ.out])
          have hx19 := hx2.len
          have hxone : ∀ v ∈ xc', v.oneCell' = true := fun v hv => by
            have := hx2.one
            rw [Array.all_eq_true_iff_forall_mem] at this
            exact this v (by simpa using hv)
          refine stepL_store_mid rfl 29 (.tmp 48) (.tmp 47) rfl g (j * 19) (.agg xc'.toArray) rfl rfl hcur (news := xc') rfl (by rw [hx19]; exact isz_29) (by rw [hx19]; omega) hxone ?_
          intro w4 cn hBn hxn hgn hzn
          have hgk : w.heap.size ≤ g := by have := HG.out; omega
          have HR4 : Hid (RSt w (w.heap.size + 2) g c4 s.n Q (R.set j (x, xc')) (j + 1) w4) := HR3.out.set (by rw [HR3.out.len, HSQ.out]) HJR.out hx2 HXE.out hcur hBn hxn hgn
          have HK4 := Lib.hid (HK3.out.far hgn HG.out)
          have HL4 := Lib.hid (HL3.out.other hgn hcur (by decide))
          have HS14 := Lib.hid (HS13.out.other hgn hcur (by decide))
          have HS24 := Lib.hid (HS23.out.other hgn hcur (by decide))
          have HS34 := Lib.hid (HS33.out.other hgn hcur (by decide))
          clear hx' hx2 hcur hcn hx19 hxone hBn hxn hgn hzn hgk hgw hb3
          go_wp2
          go_roundw
          case rel => exact ⟨j + 1, R.set j (x, xc'), by omega, by go_num, HK4.out, HL4.out, HS14.out, HS24.out, HS34.out, HR4.out⟩
          case measure => simp [intOf]; omega
        · obtain rfl : j = s.n := by omega
          have HAT : Hid (At wr (some (w.heap.size + 2)) (.mk f (Q.map Prod.fst)) (f.rowL s1 s2 [m0, m1, m2, m3, m4] s3 ⟨some ⟨g, 0, none⟩, s.n, c4⟩)) := by
            unfold Hid
            refine clone_end HOK.out HLr.out HS1r.out HS2r.out HS3r.out ?_ ?_ HRr.out.fst
            · have := SlAt.of_own (bytes := 296) HRr.out.own HREA.out
              rw [HRr.out.len, HSQ.out]
              exact this
            · intro r hr
              obtain ⟨z, hz, rfl⟩ := List.mem_iff_getElem.1 hr
              exact (HRr.out.done z hz (by rw [← HSQ.out, ← HRr.out.len]; exact hz)).lo rfl (by have := HG.out; omega)
          clear q18 hlt hj

          obtain ⟨zr, hz1', hz2'⟩ := HKr.out.res
          have HZR := Lib.hid hz1'
          have hzs : zr.size = 19 := hz2'
          have HINF : Hid ((Tryz.prog.info? 29).map (·.size) = some (f.rowL s1 s2 [m0, m1, m2, m3, m4] s3 ⟨some ⟨g, 0, none⟩, s.n, c4⟩).toArray.size) := by unfold Hid; rw [HKr.out.asize]; exact isz_29
          have HZS : Hid (zr.size = (f.rowL s1 s2 [m0, m1, m2, m3, m4] s3 ⟨some ⟨g, 0, none⟩, s.n, c4⟩).toArray.size) := by unfold Hid; rw [HKr.out.asize]; exact hzs
          clear hz1' hz2' hzs
          go_wp2_with (first
            | (refine wpList_load_row rfl 29 (.tmp 1) rfl w.heap.size rfl 29 _ _ _ HKr.out.blk Tryz.underlying29 rfl HINF.out ?_)
            | (refine wpList_store_row rfl 29 (.tmp 2) (.tmp 50) rfl (w.heap.size + 1) _ rfl rfl 29 _ HZR.out HINF.out HZS.out (rowL_one rfl) ?_
               generalize hww : World.setRow _ _ _ = wz
               have HGZ : Hid (wr.grownBy wz (some (w.heap.size + 1))) := by unfold Hid; rw [← hww]; exact only_setRow' _ _ _
               have HBZ : Hid (Blk wz (w.heap.size + 1) 29 (f.rowL s1 s2 [m0, m1, m2, m3, m4] s3 ⟨some ⟨g, 0, none⟩, s.n, c4⟩).toArray) := by unfold Hid; rw [← hww]; exact cells_setRow HZR.out
               clear hww))
          refine bodyPost_ret (results_cell_row rfl _ _ (w.heap.size + 1) 29 _ _ _ rfl HBZ.out Tryz.underlying29 rfl HINF.out) rfl ?_
          exact ⟨_, rfl, (HAT.out.grown rfl HGZ.out (by omega)).lo rfl (by omega), HKr.out.below.grown HGZ.out (by have := HKr.out.size; omega) (fun k hk => by injection hk with hk; omega)⟩
theorem opClone_any {w : World} {lo : Option Nat} {x : OpC} {cs : List Value} (h : At w lo x cs) : ∀ W, Below w.heap.size w W → Calls Tryz.prog 31 #[.agg cs.toArray] W (Cloned W x) := by
  induction h with
  | mk f d a k0 k1 k2 k3 k4 i s Q ok hd ha hk0 hk1 hk2 hk3 hk4 hi hs hQ ih =>
    intro W hW
    exact clone_walk f d a k0 k1 k2 k3 k4 i s Q W ok ⟨hd.later hW, ha.later hW, hk0.later hW, hk1.later hW, hk2.later hW, hk3.later hW, hk4.later hW, hi.later hW⟩ (hs.later hW) (fun q hq => (hQ q hq).later hW) (fun q hq W' hW' => ih q hq W' (hW.trans (hW'.mono hW.size))) _ rfl
end Go.Proofs.YtpjjnmdfgcfnmaaGreatDoor
