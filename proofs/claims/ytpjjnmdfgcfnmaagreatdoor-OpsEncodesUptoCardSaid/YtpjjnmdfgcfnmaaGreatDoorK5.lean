/- Part 5 of a proof: lemmas and walks. -/
import Derived.Test.YtpjjnmdfgcfnmaaGreatDoorK4
import Derived.LoopN
import Derived.Test.YtpjjnmdfgcfnmaaGreatDoorK1
set_option linter.unusedVariables false
set_option linter.unusedSimpArgs false
set_option maxRecDepth 100000
set_option maxHeartbeats 20000000
namespace Go.Proofs.YtpjjnmdfgcfnmaaGreatDoor
open Go.RowKit

theorem KSt.start {w : World} {f : OpF} {d a i s : Sl} {ks : List Sl} {cs old : Array Value} (hcs : cs = (f.rowL d a ks i s).toArray) (hl : ks.length = 5) (ho : old.size = 19) : KSt w f d a ks i s ((w.alloc (.cells cs 29)).alloc (.cells old 29)) :=
 ⟨by rw [hcs]; exact (Blk.new _ _ _).alloc _, ⟨old, Blk.new' (by simp), ho⟩, (zT.alloc zR _).alloc (by simp) _, by simp, hl⟩
theorem KSt.kv {w W : World} {f : OpF} {d a i s : Sl} {ks : List Sl} (h : KSt w f d a ks i s W) : ∀ j v, (ks.map Sl.v)[j]? = some v → W.cell? ((⟨w.heap.size, 11, none⟩ : Addr).add j) = some v := fun j v hv => by
 rw [zN]
 rw [List.getElem?_map] at hv
 cases hk : ks[j]? with
 | none => rw [hk] at hv; cases hv
 | some k =>
   rw [hk] at hv
   obtain ⟨hj, rfl⟩ := List.getElem?_eq_some_iff.1 hk
   injection hv with hv
   rw [← hv]
   exact h.ck hj
def KLs (w : World) (f : OpF) (ks0 ks : List Sl) (j : Nat) (W : World) : Prop :=
 (∀ z (h : z < ks.length) (h5 : z < 5), z < j → SlAt W (some (w.heap.size + 2)) 9 1 16 ks[z] (f.lists[z]'h5).length (strCells (f.lists[z]'h5))) ∧ (∀ z, j ≤ z → ks[z]? = ks0[z]?)
theorem KLs.later {w W W' : World} {f : OpF} {ks0 ks : List Sl} {j : Nat} (h : KLs w f ks0 ks j W) (hb : Below W.heap.size W W') : KLs w f ks0 ks j W' := ⟨fun z hz h5 hj => (h.1 z hz h5 hj).later hb, h.2⟩
theorem KLs.grown {w W W' : World} {f : OpF} {ks0 ks : List Sl} {j g : Nat} (h : KLs w f ks0 ks j W) (hg : W.grownBy W' (some g)) (hlt : g < w.heap.size + 2) : KLs w f ks0 ks j W' := ⟨fun z hz h5 hj => (h.1 z hz h5 hj).grown hg hlt, h.2⟩
theorem KLs.set {w W : World} {f : OpF} {ks0 ks : List Sl} {j : Nat} {k' : Sl} (h : KLs w f ks0 ks j W) (hj : j < 5) (hk : SlAt W (some (w.heap.size + 2)) 9 1 16 k' (f.lists[j]'hj).length (strCells (f.lists[j]'hj))) : KLs w f ks0 (ks.set j k') (j + 1) W := by
 refine ⟨fun z hz h5 hzj => ?_, fun z hz => ?_⟩
 · rw [List.length_set] at hz
   rw [List.getElem_set]
   split
   · rename_i e
     subst e
     exact hk
   · exact h.1 z hz h5 (by omega)
 · rw [List.getElem?_set_ne (by omega)]
   exact h.2 z (by omega)
def Cloned (w : World) (x : OpC) (e : Ending) (w' : World) : Prop := ∃ cs' : List Value, e = .returned (.agg cs'.toArray) ∧ At w' (some w.heap.size) x cs' ∧ Below w.heap.size w w'
structure RSt (w : World) (b g : Nat) (c n : Nat) (Q R : List (OpC × List Value)) (j : Nat) (W : World) : Prop where
 own : W.ownsRow b 29 19 (.slice (some ⟨g, 0, none⟩) n c) n (R.flatMap Prod.snd)
 len : R.length = Q.length
 fst : R.map Prod.fst = Q.map Prod.fst
 low : b ≤ g
 done : ∀ z (h : z < R.length), z < j → At W (some (g + 1)) (R[z]).1 (R[z]).2
 rest : ∀ z, j ≤ z → R[z]? = Q[z]?
 rows : ∀ r ∈ R, r.2.length = 19
theorem RSt.later {w W W' : World} {b g c n j : Nat} {Q R : List (OpC × List Value)} (h : RSt w b g c n Q R j W) (hb : Below W.heap.size W W') : RSt w b g c n Q R j W' :=
 ⟨own_below h.own hb, h.len, h.fst, h.low, fun z hz hj => (h.done z hz hj).later hb, h.rest, h.rows⟩
theorem RSt.row {w W : World} {b g c n j : Nat} {Q R : List (OpC × List Value)} (h : RSt w b g c n Q R j W) {z : Nat} (hz : z < R.length) (hn : R.length = n) : ∀ k v, (R[z]).2[k]? = some v → W.cell? ((⟨g, z * 19, none⟩ : Addr).add k) = some v := fun k v hv => by
 have hr := Reads.of_own h.own
 obtain ⟨ad, hA, _, hc⟩ := hr.2 (by omega)
 injection hA with hA
 subst hA
 have hk19 : k < 19 := by
  have := (List.getElem?_eq_some_iff.1 hv).1
  rwa [h.rows _ (List.getElem_mem hz)] at this
 have := hc (z * 19 + k) v ((subs_row R h.rows z hz k hk19).trans hv)
 rw [zN] at this ⊢
 rw [Nat.zero_add] at this
 exact this
theorem RSt.grown {w W W' : World} {b g g' c n j : Nat} {Q R : List (OpC × List Value)} (h : RSt w b g c n Q R j W) (hg : W.grownBy W' (some g')) (hlt : g' < b) : RSt w b g c n Q R j W' :=
 ⟨own_grown h.own hg hlt, h.len, h.fst, h.low, fun z hz hj => (h.done z hz hj).grown rfl hg (by have := h.low; omega), h.rest, h.rows⟩
theorem RSt.blk {w W : World} {b g c n j : Nat} {Q R : List (OpC × List Value)} (h : RSt w b g c n Q R j W) (hn : R.length = n) : ∃ cur, Blk W g 29 cur ∧ n * 19 ≤ cur.size ∧ cur.toList.take (n * 19) = R.flatMap Prod.snd ∧ n ≤ c ∧ c ≤ maxLen ∧ cur.size = c * 19 := by
 rcases h.own.2 with ⟨h1, h2⟩ | ⟨g', cap, cur, h1, h2, h3, h4, h5, h6, h7⟩
 · cases h1
 · injection h1 with h1 _ h1'
   injection h1 with h1
   injection h1 with h1
   subst h1 h1'
   exact ⟨cur, h3, by rw [h6]; exact Nat.mul_le_mul_right _ h4, h7, h4, h5, h6⟩
theorem RSt.set {w W W' : World} {b g c n j : Nat} {Q R : List (OpC × List Value)} (h : RSt w b g c n Q R j W) (hn : R.length = n) (hj : j < R.length) {x : OpC} {xc : List Value} (hx : At W (some (g + 1)) x xc) (hxe : x = (R[j]).1) {cur cur' : Array Value} (hcur : Blk W g 29 cur) (hB : Blk W' g 29 cur') (hl : cur'.toList = cur.toList.take (j * 19) ++ xc ++ cur.toList.drop (j * 19 + xc.length)) (hg : W.grownBy W' (some g)) :
 RSt w b g c n Q (R.set j (x, xc)) (j + 1) W' := by
 obtain ⟨cur0, h1, h2, h3, h4, h5, h6⟩ := h.blk hn
 have e : cur0 = cur := by
  unfold Blk at h1 hcur
  rw [h1] at hcur
  injection hcur with hcur
  injection hcur
 subst e
 have hxl : xc.length = 19 := hx.len
 have hrow := rows_set R j (x, xc) h.rows hxl hj
 have hfl : ∀ (R : List (OpC × List Value)), (∀ r ∈ R, r.2.length = 19) → (R.flatMap Prod.snd).length = R.length * 19 := fun R => by
  induction R with
  | nil => intro _; rfl
  | cons r R ih =>
    intro h
    rw [List.flatMap_cons, zG, ih (fun x hx => h x (by simp [hx])), h r (by simp), zM]
    omega
 have hR := hfl R h.rows
 have hlen' : cur'.toList.length = cur0.toList.length := by
  rw [hl, zG, zG, List.length_take, List.length_drop, hxl, Array.length_toList]
  omega
 refine ⟨⟨?_, .inr ⟨g, c, cur', rfl, h.low, hB, h4, h5, ?_, ?_⟩⟩, by simp [h.len], ?_, h.low, fun z hz hzj => ?_, fun z hz => ?_, fun r hr => ?_⟩
 · rw [← hrow, ← h3]
   dsimp only
   simp only [zG, List.length_take, List.length_drop, Array.length_toList, hxl]
   omega
 · rw [← h6]
   simpa using hlen'
 · rw [← hrow, hl, ← h3]
   dsimp only
   apply List.ext_getElem?
   intro k
   simp only [List.getElem?_append, zG, List.length_take, Array.length_toList, List.getElem?_take, List.getElem?_drop, hxl]
   have e1 : min (j * 19) cur0.size = j * 19 := by omega
   have e2 : min (j * 19) (min (n * 19) cur0.size) = j * 19 := by omega
   rw [e1, e2]
   by_cases k1 : k < j * 19
   · simp only [if_pos k1, if_pos (show k < j * 19 + 19 by omega)]
     try (split <;> first | rfl | omega)
   · by_cases k2 : k < j * 19 + 19
     · simp only [if_neg k1, if_pos k2, if_pos (show k < n * 19 by omega)]
     · simp only [if_neg k1, if_neg k2]
       by_cases k3 : k < n * 19
       · rw [if_pos k3, if_pos (by omega)]
       · rw [if_neg k3, if_neg (by omega)]
 · rw [List.map_set, h.fst, hxe]
   apply List.ext_getElem?
   intro k
   rw [List.getElem?_set]
   split
   · rename_i e
     subst e
     rw [← h.fst]
     simp [hj]
   · rfl
 · rw [List.length_set] at hz
   rw [List.getElem_set]
   split
   · rename_i e
     subst e
     exact hx.grown rfl hg (by omega)
   · exact (h.done z hz (by omega)).grown rfl hg (by omega)
 · rw [List.getElem?_set_ne (by omega)]
   exact h.rest z (by omega)
 · rcases List.mem_or_eq_of_mem_set hr with hr | rfl
   · exact h.rows r hr
   · exact hxl

theorem SlAt.other {w w' : World} {b g : Nat} {e t : TypeId} {size bytes len : Nat} {s : Sl} {xs : List Value} {cs : Array Value} (h : SlAt w (some b) e size bytes s len xs) (hg : w.grownBy w' (some g)) (hB : Blk w g t cs) (hne : e ≠ t) : SlAt w' (some b) e size bytes s len xs := by
 have ho := (h.own b rfl).kept hg (.inr (own_blk_ne (h.own b rfl) hB hne))
 exact ⟨h.nil, h.le, h.cap, h.reach, h.len, Reads.of_own ho, fun c hc => by injection hc with hc; subst hc; exact ho⟩
theorem KLs.other {w W W' : World} {f : OpF} {ks0 ks : List Sl} {j g : Nat} {t : TypeId} {cs : Array Value} (h : KLs w f ks0 ks j W) (hg : W.grownBy W' (some g)) (hB : Blk W g t cs) (hne : 9 ≠ t) : KLs w f ks0 ks j W' := ⟨fun z hz h5 hj => (h.1 z hz h5 hj).other hg hB hne, h.2⟩
theorem clone_end {w W : World} {f : OpF} {s1 s2 s3 s4 m0 m1 m2 m3 m4 : Sl} {ks0 : List Sl} {Q R : List (OpC × List Value)} (ok : f.Ok) (hk : KLs w f ks0 [m0, m1, m2, m3, m4] 5 W)
 (h1 : SlAt W (some (w.heap.size + 2)) 5 1 1 s1 f.l.length (bcells f.l)) (h2 : SlAt W (some (w.heap.size + 2)) 104 3 40 s2 f.L.length (aclCells f.L)) (h3 : SlAt W (some (w.heap.size + 2)) 102 2 32 s3 f.I.length (idCells f.I))
 (h4 : SlAt W (some (w.heap.size + 2)) 29 19 296 s4 R.length (R.flatMap Prod.snd)) (hR : ∀ r ∈ R, At W (some (w.heap.size + 2)) r.1 r.2) (hf : R.map Prod.fst = Q.map Prod.fst) :
 At W (some (w.heap.size + 2)) (.mk f (Q.map Prod.fst)) (f.rowL s1 s2 [m0, m1, m2, m3, m4] s3 s4) := by
 rw [← rowL_eq, ← hf]
 exact .mk f s1 s2 m0 m1 m2 m3 m4 s3 s4 R ok h1 h2 (hk.1 0 (by simp) (by decide) (by decide)) (hk.1 1 (by simp) (by decide) (by decide)) (hk.1 2 (by simp) (by decide) (by decide)) (hk.1 3 (by simp) (by decide) (by decide)) (hk.1 4 (by simp) (by decide) (by decide)) h3 h4 hR
theorem rowL_one {f : OpF} {d a i s : Sl} {ks : List Sl} (h : ks.length = 5) : (f.rowL d a ks i s).toArray.all (·.oneCell') = true := by
 obtain ⟨_, _, _, _, _, rfl⟩ := list5 h
 simp [OpF.rowL, Sl.v, Value.oneCell']

theorem clone_walk {lo : Option Nat} (f : OpF) (d a k0 k1 k2 k3 k4 i s : Sl) (Q : List (OpC × List Value)) (w : World) (ok : f.Ok) (h : FAt w lo f d a k0 k1 k2 k3 k4 i) (hs : SlAt w lo 29 19 296 s Q.length (Q.flatMap Prod.snd)) (hQ : ∀ q ∈ Q, At w lo q.1 q.2)
 (IH : ∀ q ∈ Q, ∀ W, Below w.heap.size w W → Calls Tryz.prog 31 #[.agg q.2.toArray] W (Cloned W q.1)) (cs : Array Value) (hcs : cs = (f.row d a k0 k1 k2 k3 k4 i s).toArray) :
 Calls Tryz.prog 31 #[.agg cs] w (Cloned w (.mk f (Q.map Prod.fst))) := by
 obtain ⟨w1, hw1⟩ := xa w cs 29
 have HW1 := Hi hw1.symm
 have hz1 : w1.heap.size = w.heap.size + 1 := by rw [← hw1]; simp
 have HCS : Hid (cs = (f.rowL d a [k0, k1, k2, k3, k4] i s).toArray) := hcs
 have HD : Hid (∀ W, Below w.heap.size w W → Calls Tryz.prog 66 #[.slice d.A d.n d.c] W fun e w' => ∃ s' : Sl, e = .returned (.slice s'.A s'.n s'.c) ∧ SlAt w' (some W.heap.size) 5 1 1 s' f.l.length (bcells f.l) ∧ Below W.heap.size W w') := fun W hW => bytesClone_any (h.d.later hW) (bcells_one _)
 have HA : Hid (∀ W, Below w.heap.size w W → Calls Tryz.prog 67 #[.slice a.A a.n a.c] W fun e w' => ∃ s' : Sl, e = .returned (.slice s'.A s'.n s'.c) ∧ SlAt w' (some W.heap.size) 104 3 40 s' f.L.length (aclCells f.L) ∧ Below W.heap.size W w') := fun W hW => aclsClone_any (h.a.later hW) (aclCells_one _)
 have HI : Hid (∀ W, Below w.heap.size w W → Calls Tryz.prog 68 #[.slice i.A i.n i.c] W fun e w' => ∃ s' : Sl, e = .returned (.slice s'.A s'.n s'.c) ∧ SlAt w' (some W.heap.size) 102 2 32 s' f.I.length (idCells f.I) ∧ Below W.heap.size W w') := fun W hW => idsClone_any (h.i.later hW) (idCells_one _)
 have HSS : Hid (∀ W, Below w.heap.size w W → Calls Tryz.prog 70 #[.slice s.A s.n s.c] W fun e w' => ∃ s' : Sl, e = .returned (.slice s'.A s'.n s'.c) ∧ SlAt w' (some W.heap.size) 29 19 296 s' Q.length (Q.flatMap Prod.snd) ∧ Below W.heap.size W w') := fun W hW => opsClone_any (hs.later hW) (opCells_one hQ)
 have HKS : Hid (∀ j (hj : j < 5) W, Below w.heap.size w W → SlAt W lo 9 1 16 ([k0, k1, k2, k3, k4][j]'hj) (f.lists[j]'hj).length (strCells (f.lists[j]'hj))) := fun j hj W hW => by
  rcases (by omega : j = 0 ∨ j = 1 ∨ j = 2 ∨ j = 3 ∨ j = 4) with rfl | rfl | rfl | rfl | rfl
  · exact h.k0.later hW
  · exact h.k1.later hW
  · exact h.k2.later hW
  · exact h.k3.later hW
  · exact h.k4.later hW
 have HQ := Hi hQ
 have HIH := Hi IH
 have HOK := Hi ok
 have HSQ : Hid (Q.length = s.n) := hs.len
 have HREA : Hid (s.n * 296 ≤ reachBytes) := hs.reach
 clear hcs h hs hQ IH ok
 go_enter Tryz.func31, Tryz.ntmps31
 go_wp2_with (first
  | (refine wpList_new rfl 29 rfl zer_op ?_
     intro old hold
     obtain ⟨w2, hw2⟩ := xa w1 old 29
     rw [hw2]
     have HK2 : Hid (KSt w f d a [k0, k1, k2, k3, k4] i s w2) := by unfold Hid; rw [← hw2, ← hw1]; exact KSt.start HCS.out rfl hold
     have q2 := HK2.out.c2
     clear hw2 hold)
  | (go_at_call 66
     refine (HD.out _ HK2.out.below).mono ?_
     rintro e u3 ⟨s1, rfl, hs1, hb⟩
     have Hs1 := Hi (hs1.lo HK2.out.size)
     have HK3 := Hi (HK2.out.later hb)
     clear hb hs1 q2)
  | (with_reducible refine wpSt 10 ?_
     refine wpList_store_mid rfl 22 (.tmp 10) (.tmp 9) rfl w.heap.size 2 (.slice s1.A s1.n s1.c) rfl rfl HK3.out.blk (news := [.slice s1.A s1.n s1.c]) rfl isz_22 (by rw [HK3.out.asize]; exact (by decide : 2 + 1 ≤ 19)) (by simp [Value.oneCell']) ?_
     intro wn cn hBn hxn hgn hzn
     have HK4 : Hid (KSt w f s1 a [k0, k1, k2, k3, k4] i s wn) := HK3.out.put hBn hgn (hxn.trans rowL_d) HK3.out.len
     have HS1 := Hi (Hs1.out.grown hgn (by omega))
     have q3 := HK4.out.c3
     clear hBn hxn hgn hzn)
  | (go_at_call 67
     refine (HA.out _ HK4.out.below).mono ?_
     rintro e u5 ⟨s2, rfl, hs2, hb⟩
     have Hs2 := Hi (hs2.lo HK4.out.size)
     have HK5 := Hi (HK4.out.later hb)
     have HS1a := Hi (HS1.out.later hb)
     clear hb hs2 q3)
  | (with_reducible refine wpSt 14 ?_
     refine wpList_store_mid rfl 23 (.tmp 14) (.tmp 13) rfl w.heap.size 3 (.slice s2.A s2.n s2.c) rfl rfl HK5.out.blk (news := [.slice s2.A s2.n s2.c]) rfl isz_23 (by rw [HK5.out.asize]; exact (by decide : 3 + 1 ≤ 19)) (by simp [Value.oneCell']) ?_
     intro wn cn hBn hxn hgn hzn
     have HK6 : Hid (KSt w f s1 s2 [k0, k1, k2, k3, k4] i s wn) := HK5.out.put hBn hgn (hxn.trans rowL_a) HK5.out.len
     have HS1b := Hi (HS1a.out.grown hgn (by omega))
     have HS2 := Hi (Hs2.out.grown hgn (by omega))
     have q17 := HK6.out.c17
     clear hBn hxn hgn hzn)
  | (go_at_call 68
     refine (HI.out _ HK6.out.below).mono ?_
     rintro e u7 ⟨s3, rfl, hs3, hb⟩
     have Hs3 := Hi (hs3.lo HK6.out.size)
     have HK7 := Hi (HK6.out.later hb)
     have HS1c := Hi (HS1b.out.later hb)
     have HS2a := Hi (HS2.out.later hb)
     clear hb hs3 q17)
  | (with_reducible refine wpSt 18 ?_
     refine wpList_store_mid rfl 26 (.tmp 18) (.tmp 17) rfl w.heap.size 17 (.slice s3.A s3.n s3.c) rfl rfl HK7.out.blk (news := [.slice s3.A s3.n s3.c]) rfl isz_26 (by rw [HK7.out.asize]; exact (by decide : 17 + 1 ≤ 19)) (by simp [Value.oneCell']) ?_
     intro wn cn hBn hxn hgn hzn
     have HK8 : Hid (KSt w f s1 s2 [k0, k1, k2, k3, k4] s3 s wn) := HK7.out.put hBn hgn (hxn.trans (rowL_i HK7.out.len)) HK7.out.len
     have HS1d := Hi (HS1c.out.grown hgn (by omega))
     have HS2b := Hi (HS2a.out.grown hgn (by omega))
     have HS3 := Hi (Hs3.out.grown hgn (by omega))
     clear hBn hxn hgn hzn)
  | (refine wpList_load_at (by rfl) 25 (.tmp 19) rfl ⟨w.heap.size, 11, none⟩ rfl [k0.v, k1.v, k2.v, k3.v, k4.v] _ HK8.out.kv zU25 rfl isz_25 ?_))
 clear HK2 HK3 HK4 HK5 HK6 HK7 HD HA HI HS1 HS1a HS1b HS1c HS2 HS2a Hs1 Hs2 Hs3
 go_loopw [21] (fun v21 wr => ∃ (j : Nat) (ks : List Sl), j ≤ 5 ∧ v21 = .int .i64 j ∧ Hid (KSt w f s1 s2 ks s3 s wr) ∧ Hid (KLs w f [k0, k1, k2, k3, k4] ks j wr) ∧ Hid (SlAt wr (some (w.heap.size + 2)) 5 1 1 s1 f.l.length (bcells f.l)) ∧ Hid (SlAt wr (some (w.heap.size + 2)) 104 3 40 s2 f.L.length (aclCells f.L)) ∧ Hid (SlAt wr (some (w.heap.size + 2)) 102 2 32 s3 f.I.length (idCells f.I))) (fun v21 _ => 5 - (intOf v21).toNat)
 case atStart => exact ⟨0, [k0, k1, k2, k3, k4], by omega, rfl, HK8.out, ⟨fun z _ _ hz => absurd hz (by omega), fun z _ => rfl⟩, HS1d.out, HS2b.out, HS3.out⟩
 case round =>
  clear HK8 HS1d HS2b HS3
  obtain ⟨j, ks, hj, rfl, HKr, HLr, HS1r, HS2r, HS3r⟩ := hrel
  by_cases hlt : j < 5
  · have hix : ∀ W, (Instr.index 25 (.agg #[k0.v, k1.v, k2.v, k3.v, k4.v]) (.int .i64 (j : Int))).run Tryz.prog W = .ok (([k0, k1, k2, k3, k4][j]'hlt).v) W := fun W => by
     rcases (by omega : j = 0 ∨ j = 1 ∨ j = 2 ∨ j = 3 ∨ j = 4) with rfl | rfl | rfl | rfl | rfl <;> kernel_rfl
    have hk := HKS.out j hlt
    obtain ⟨kj, hkj⟩ : ∃ k, k = ([k0, k1, k2, k3, k4][j]'hlt) := ⟨_, rfl⟩
    rw [← hkj] at hix hk
    have hix2 : ∀ W, (Instr.index 25 (.agg #[k0.v, k1.v, k2.v, k3.v, k4.v]) (.int .i64 (j : Int))).run Tryz.prog W = .ok (.slice kj.A kj.n kj.c) W := hix
    clear hix
    have HC : Hid (∀ W, Below w.heap.size w W → Calls Tryz.prog 69 #[.slice kj.A kj.n kj.c] W fun e w' => ∃ s' : Sl, e = .returned (.slice s'.A s'.n s'.c) ∧ SlAt w' (some W.heap.size) 9 1 16 s' (f.lists[j]'hlt).length (strCells (f.lists[j]'hlt)) ∧ Below W.heap.size W w') := fun W hW => strsClone_any (hk W hW) (strCells_one _)
    clear hk hkj
    go_wp2_with (first
     | (go_at_call 69
        refine (HC.out _ HKr.out.below).mono ?_
        rintro e u ⟨k', rfl, hk', hb⟩
        have HK' := Hi (hk'.lo HKr.out.size)
        have HKs := Hi (HKr.out.later hb)
        have HLs := Hi (HLr.out.later hb)
        have HS1s := Hi (HS1r.out.later hb)
        have HS2s := Hi (HS2r.out.later hb)
        have HS3s := Hi (HS3r.out.later hb)
        clear hb hk')
     | (with_reducible refine wpSt 29 ?_
        refine wpList_store_mid rfl 24 (.tmp 29) (.tmp 27) rfl w.heap.size (11 + j) (.slice k'.A k'.n k'.c) rfl rfl HKs.out.blk (news := [.slice k'.A k'.n k'.c]) rfl isz_24 (by rw [HKs.out.asize]; show 11 + j + 1 ≤ 19; omega) (by simp [Value.oneCell']) ?_
        intro wn cn hBn hxn hgn hzn
        have HKt : Hid (KSt w f s1 s2 (ks.set j k') s3 s wn) := HKs.out.put hBn hgn (hxn.trans (rowL_k HKs.out.len hlt)) (by rw [List.length_set]; exact HKs.out.len)
        have HLt : Hid (KLs w f [k0, k1, k2, k3, k4] (ks.set j k') (j + 1) wn) := (HLs.out.grown hgn (by omega)).set hlt (HK'.out.grown hgn (by omega))
        have HS1t := Hi (HS1s.out.grown hgn (by omega))
        have HS2t := Hi (HS2s.out.grown hgn (by omega))
        have HS3t := Hi (HS3s.out.grown hgn (by omega))
        clear hBn hxn hgn hzn))
    go_roundw
    case rel => exact ⟨j + 1, ks.set j k', by omega, by go_num, HKt.out, HLt.out, HS1t.out, HS2t.out, HS3t.out⟩
    case measure => simp [intOf]; omega
  · obtain rfl : j = 5 := by omega
    obtain ⟨m0, m1, m2, m3, m4, hks⟩ := list5 HKr.out.len
    subst hks
    clear hlt hj
    have q18 := HKr.out.c18
    by_cases hn0 : s.n = 0
    · have hnn : ((s.n : Nat) : Int) = 0 := by omega
      have HQN : Hid (Q = []) := List.eq_nil_of_length_eq_zero (by rw [HSQ.out]; exact hn0)
      have HN0 := Hi hn0
      clear hn0 hnn
      go_wp2_with (first
       | (go_at_call 70
          refine (HSS.out _ HKr.out.below).mono ?_
          rintro e u ⟨s4, rfl, hs4, hb⟩
          have HS4 := Hi (hs4.lo HKr.out.size)
          have HKs := Hi (HKr.out.later hb)
          have HLs := Hi (HLr.out.later hb)
          have HS1s := Hi (HS1r.out.later hb)
          have HS2s := Hi (HS2r.out.later hb)
          have HS3s := Hi (HS3r.out.later hb)
          have H40 : Hid (s4.n = 0) := by unfold Hid; rw [← hs4.len, HSQ.out]; exact HN0.out
          clear hb hs4 q18)
       | (with_reducible refine wpSt 34 ?_
          refine wpList_store_mid rfl 27 (.tmp 34) (.tmp 33) rfl w.heap.size 18 (.slice s4.A s4.n s4.c) rfl rfl HKs.out.blk (news := [.slice s4.A s4.n s4.c]) rfl isz_27 (by rw [HKs.out.asize]; exact (by decide : 18 + 1 ≤ 19)) (by simp [Value.oneCell']) ?_
          intro wn cn hBn hxn hgn hzn
          have HKt : Hid (KSt w f s1 s2 [m0, m1, m2, m3, m4] s3 s4 wn) := HKs.out.put hBn hgn (hxn.trans (rowL_s HKs.out.len)) HKs.out.len
          have HLt := Hi (HLs.out.grown hgn (by omega))
          have HS1t := Hi (HS1s.out.grown hgn (by omega))
          have HS2t := Hi (HS2s.out.grown hgn (by omega))
          have HS3t := Hi (HS3s.out.grown hgn (by omega))
          have HS4t := Hi (HS4.out.grown hgn (by omega))
          have q18 := HKt.out.c18
          clear hBn hxn hgn hzn))
      have HAT : Hid (At wn (some (w.heap.size + 2)) (.mk f (Q.map Prod.fst)) (f.rowL s1 s2 [m0, m1, m2, m3, m4] s3 s4)) :=
       clone_end HOK.out HLt.out HS1t.out HS2t.out HS3t.out HS4t.out (fun r hr => by rw [HQN.out] at hr; cases hr) rfl
      clear HKr HLr HS1r HS2r HS3r
      refine wp_loop_rounds 1 ?_
      rw [rounds_succ]
      clear q18 HKs HLs HS1s HS2s HS3s HS4 HS1t HS2t HS3t HS4t HLt
      have HKr := HKt
      have h40 := H40.out
      obtain ⟨zr, hz1', hz2'⟩ := HKr.out.res
      have HZR := Hi hz1'
      have hzs : zr.size = 19 := hz2'
      have HINF : Hid ((Tryz.prog.info? 29).map (·.size) = some (f.rowL s1 s2 [m0, m1, m2, m3, m4] s3 s4).toArray.size) := by unfold Hid; rw [HKr.out.asize]; exact isz_29
      have HZS : Hid (zr.size = (f.rowL s1 s2 [m0, m1, m2, m3, m4] s3 s4).toArray.size) := by unfold Hid; rw [HKr.out.asize]; exact hzs
      clear hz1' hz2' hzs
      go_wp2_with (first
       | (refine wpList_load_row rfl 29 (.tmp 1) rfl w.heap.size rfl 29 _ _ _ HKr.out.blk zU29 rfl HINF.out ?_)
       | (refine wpList_store_row rfl 29 (.tmp 2) (.tmp 50) rfl (w.heap.size + 1) _ rfl rfl 29 _ HZR.out HINF.out HZS.out (rowL_one rfl) ?_
          generalize hww : World.setRow _ _ _ = wz
          have HGZ : Hid (wn.grownBy wz (some (w.heap.size + 1))) := by unfold Hid; rw [← hww]; exact only_setRow' _ _ _
          have HBZ : Hid (Blk wz (w.heap.size + 1) 29 (f.rowL s1 s2 [m0, m1, m2, m3, m4] s3 s4).toArray) := by unfold Hid; rw [← hww]; exact cells_setRow HZR.out
          clear hww))
      refine bodyPost_ret (results_cell_row rfl _ _ (w.heap.size + 1) 29 _ _ _ rfl HBZ.out zU29 rfl HINF.out) rfl ?_
      exact ⟨_, rfl, (HAT.out.grown rfl HGZ.out (by omega)).lo rfl (by omega), HKr.out.below.grown HGZ.out (by have := HKr.out.size; omega) (fun k hk => by injection hk with hk; omega)⟩
    have HN0 : Hid (0 < s.n) := Nat.pos_of_ne_zero hn0
    clear hn0
    go_wp2_with (first
     | (go_at_call 70
        refine (HSS.out _ HKr.out.below).mono ?_
        rintro e u ⟨s4, rfl, hs4, hb⟩
        have HS4 := Hi (hs4.lo HKr.out.size)
        have HKs := Hi (HKr.out.later hb)
        have HLs := Hi (HLr.out.later hb)
        have HS1s := Hi (HS1r.out.later hb)
        have HS2s := Hi (HS2r.out.later hb)
        have HS3s := Hi (HS3r.out.later hb)
        clear hb hs4 q18)
     | (with_reducible refine wpSt 34 ?_
        refine wpList_store_mid rfl 27 (.tmp 34) (.tmp 33) rfl w.heap.size 18 (.slice s4.A s4.n s4.c) rfl rfl HKs.out.blk (news := [.slice s4.A s4.n s4.c]) rfl isz_27 (by rw [HKs.out.asize]; exact (by decide : 18 + 1 ≤ 19)) (by simp [Value.oneCell']) ?_
        intro wn cn hBn hxn hgn hzn
        have HKt : Hid (KSt w f s1 s2 [m0, m1, m2, m3, m4] s3 s4 wn) := HKs.out.put hBn hgn (hxn.trans (rowL_s HKs.out.len)) HKs.out.len
        have HLt := Hi (HLs.out.grown hgn (by omega))
        have HS1t := Hi (HS1s.out.grown hgn (by omega))
        have HS2t := Hi (HS2s.out.grown hgn (by omega))
        have HS3t := Hi (HS3s.out.grown hgn (by omega))
        have HS4t := Hi (HS4.out.grown hgn (by omega))
        have q18 := HKt.out.c18
        clear hBn hxn hgn hzn))
    have h4l : s4.n = Q.length := HS4t.out.len.symm
    obtain ⟨g, c4, h4v, h4b⟩ : ∃ g c4, s4 = ⟨some ⟨g, 0, none⟩, s.n, c4⟩ ∧ w.heap.size + 2 ≤ g := by
     obtain ⟨A4, n4, c4⟩ := s4
     dsimp only at h4l
     rcases (HS4t.out.own _ rfl).2 with ⟨_, h2⟩ | ⟨g, cap, cur, h1, h2, _⟩
     · dsimp only at h2
       have := HN0.out
       have := HSQ.out
       omega
     · unfold Sl.v at h1
       injection h1 with h1 _ h3
       subst h1
       exact ⟨g, c4, by rw [h4l, HSQ.out], h2⟩
    subst h4v
    clear h4l
    have HR0 : Hid (RSt w (w.heap.size + 2) g c4 s.n Q Q 0 wn) := ⟨HS4t.out.own _ rfl, rfl, rfl, h4b, fun z _ hz => absurd hz (by omega), fun _ _ => rfl, fun r hr => (HQ.out r hr).len⟩
    have HG := Hi h4b
    have hbn : s.n ≤ 4611686018427387904 := HS4t.out.bd (by decide)
    clear h4b HKs HLs HS1s HS2s HS3s HKr HLr HS1r HS2r HS3r HS4 HS4t q18
    dsimp only at *
    go_loopw [38] (fun v38 wr => ∃ (j : Nat) (R : List (OpC × List Value)), j ≤ s.n ∧ v38 = .int .i64 j ∧ Hid (KSt w f s1 s2 [m0, m1, m2, m3, m4] s3 ⟨some ⟨g, 0, none⟩, s.n, c4⟩ wr) ∧ Hid (KLs w f [k0, k1, k2, k3, k4] [m0, m1, m2, m3, m4] 5 wr) ∧ Hid (SlAt wr (some (w.heap.size + 2)) 5 1 1 s1 f.l.length (bcells f.l)) ∧ Hid (SlAt wr (some (w.heap.size + 2)) 104 3 40 s2 f.L.length (aclCells f.L)) ∧ Hid (SlAt wr (some (w.heap.size + 2)) 102 2 32 s3 f.I.length (idCells f.I)) ∧ Hid (RSt w (w.heap.size + 2) g c4 s.n Q R j wr)) (fun v38 _ => s.n - (intOf v38).toNat)
    case atStart => exact ⟨0, Q, by omega, rfl, HKt.out, HLt.out, HS1t.out, HS2t.out, HS3t.out, HR0.out⟩
    case round =>
     clear HKt HLt HS1t HS2t HS3t HR0
     obtain ⟨j, R, hj, rfl, HKr, HLr, HS1r, HS2r, HS3r, HRr⟩ := hrel
     have q18 := HKr.out.c18
     dsimp only at q18
     by_cases hlt : j < s.n
     · have hjR : j < R.length := by rw [HRr.out.len, HSQ.out]; exact hlt
       have hjQ : j < Q.length := by rw [HSQ.out]; exact hlt
       have hxq : R[j]? = Q[j]? := HRr.out.rest j zR
       have hxq' : R[j] = Q[j] := by rw [List.getElem?_eq_getElem hjR, List.getElem?_eq_getElem hjQ] at hxq; injection hxq
       have hrow := HRr.out.row hjR (by rw [HRr.out.len, HSQ.out]) 
       have hih := HIH.out _ (List.getElem_mem hjQ)
       have hat := HQ.out _ (List.getElem_mem hjQ)
       rw [hxq'] at hrow
       have HXE : Hid ((Q[j]).1 = (R[j]).1) := by unfold Hid; rw [hxq']
       obtain ⟨⟨x, xc⟩, hx⟩ : ∃ q, q = Q[j] := ⟨_, rfl⟩
       rw [← hx] at hrow hih hat HXE
       dsimp only at hrow hih hat HXE
       have HROW := Hi hrow
       have HIX := Hi hih
       have HJR := Hi hjR
       have ZX : Hid ((Tryz.prog.info? 29).map (·.size) = some xc.length) := by unfold Hid; rw [hat.len]; exact isz_29
       have ZA : Hid ((Tryz.prog.info? 29).map (·.size) = some xc.toArray.size) := by unfold Hid; rw [zO, hat.len]; exact isz_29
       have ZZ : Hid (((Tryz.prog.info? 29).bind (·.zero)).map (·.cells.size) = some xc.toArray.size) := by unfold Hid; rw [zO, hat.len]; exact zer_op
       have ZO := Hi hat.one
       obtain ⟨w2, hw2⟩ := xa wr (xc.toArray) 29
       have HN2 := Hi (zW hw2)
       have hb2 := zV hw2
       have HK2 := Hi (HKr.out.later hb2)
       have HL2 := Hi (HLr.out.later hb2)
       have HS12 := Hi (HS1r.out.later hb2)
       have HS22 := Hi (HS2r.out.later hb2)
       have HS32 := Hi (HS3r.out.later hb2)
       have HR2 := Hi (HRr.out.later hb2)
       clear hx hxq hxq' hrow hih hat hjQ
       go_wp2_with (first
        | (refine wpList_load_at (by rfl) 29 (.tmp 41) rfl ⟨g, j * 19, none⟩ rfl xc _ HROW.out zU29 rfl ZX.out ?_)
        | (refine wpList_newrow1 rfl rfl rfl 29 rfl 6 rfl (.tmp 40) rfl 5 rfl (by decide) (.tmp 42) rfl rfl (.int .i64 (j : Int)) (fun _ => rfl) xc.toArray (fun _ => rfl) (show 6 < 51 by decide) ZZ.out ZA.out ZO.out ?_
           rw [hw2]))
       have CS : Hid (∀ {W}, Below w2.heap.size w2 W → W.cell? ⟨w.heap.size, 18, none⟩ = some (.slice (some ⟨g, 0, none⟩) s.n c4)) := fun {W} hW => (HK2.out.later hW).c18
       have CR : Hid (∀ {W}, Below w2.heap.size w2 W → ∀ k v, xc[k]? = some v → W.cell? ((⟨wr.heap.size, 0, none⟩ : Addr).add k) = some v) := fun {W} hW k v hk => by
        rw [zN, Nat.zero_add, (HN2.out.below hW HN2.out.lt).cell k]
        simpa using hk
       have CJ : Hid (∀ W, Below w2.heap.size w2 W → Calls Tryz.prog 31 #[.agg xc.toArray] W fun e w' => ∃ v, e = .returned v ∧ (∃ xc' : List Value, v = .agg xc'.toArray ∧ At w' (some w2.heap.size) x xc') ∧ Below W.heap.size W w') := fun W hW => (HIX.out W (HK2.out.below.trans (hW.mono HK2.out.below.size))).mono fun e w' ⟨xc', h1, h2, h3⟩ => ⟨_, h1, ⟨xc', rfl, h2.lo rfl hW.size⟩, h3⟩
       clear q18 hw2 hb2 HKr HLr HS1r HS2r HS3r HRr
       obtain ⟨x43, H43⟩ := xv (.pointer (some ⟨w.heap.size, 18, none⟩))
       obtain ⟨x44, H44⟩ := xv (.slice (some ⟨g, 0, none⟩) s.n c4)
       obtain ⟨x45, H45⟩ := xv (.int .i64 (j : Int))
       obtain ⟨x46, H46⟩ := xv (.agg xc.toArray)
       refine wp_region_tail (w0 := w2) 6 rfl (.inl x43 ::
        .inl x44 ::
        .inl x45 ::
        .inl x46 ::
        .inr (fun v W => ∃ xc' : List Value, v = .agg xc'.toArray ∧ At W (some w2.heap.size) x xc') ::
        .inl (.pointer (some ⟨g, j * 19, none⟩)) :: []) rfl (by kernel_rfl) (by kernel_rfl) (by kernel_rfl) (by kernel_rfl) (by kernel_rfl) (by
        intro p hp
        simp only [zH, reduceCtorEq, Sum.inr.injEq, zI, or_false, false_or] at hp
        subst hp
        rintro v W W' ⟨xc', h1, h2⟩ hb
        exact ⟨xc', h1, h2.later hb⟩) ⟨fun ac W hb o q K hK => op_u (u := .pointer (some ⟨w.heap.size, 18, none⟩)) rfl (r_field 29 _ 14 rfl (yA (hO o 1)) zU29 rfl (n := 0) isz_27 rfl) (kH hK H43),
        fun ac W hb o q K hK => op_u (u := .slice (some ⟨g, 0, none⟩) s.n c4) rfl (r_load 27 _ rfl (yA (dE q 0 43 H43)) (CS.out hb) zU27 rfl) (kH hK H44),
        fun ac W hb o q K hK => op_u (u := .int .i64 (j : Int)) rfl (r_move _ rfl (yA (hO o 5))) (kH hK H45),
        fun ac W hb o q K hK => op_u (u := .agg xc.toArray) rfl (r_load_row 29 _ rfl (yA (hO o 6)) xc (CR.out hb) zU29 rfl ZX.out) (kH hK H46),
        fun ac W hb o q K hK => op_callR rfl 31 _ _ rfl (#[.agg xc.toArray]) (by simp [(yA (dE q 3 46 H46))]) Tryz.func31 (by kernel_rfl) (by kernel_rfl) (CJ.out W hb) (fun v w' hv hbl => hK _ _ hv hbl),
        fun ac W hb o q K hK => op_u (u := .pointer (some ⟨g, j * 19, none⟩)) rfl (r_index 27 _ _ rfl (yA (dE q 1 44 H44)) (yA (dE q 2 45 H45)) hlt zU27 isz_29 (by rw [zN, Nat.zero_add])) (kR hK), trivial⟩ ?_
       intro w3 hb3
       simp only [Fin, List.take_succ_cons, List.take_zero, Act.put, zD, zA, zB]
       rintro v47 ⟨xc', rfl, hx'⟩
       clear H43 H44 H45 H46
       have HK3 := Hi (HK2.out.later hb3)
       have HL3 := Hi (HL2.out.later hb3)
       have HS13 := Hi (HS12.out.later hb3)
       have HS23 := Hi (HS22.out.later hb3)
       have HS33 := Hi (HS32.out.later hb3)
       have HR3 := Hi (HR2.out.later hb3)
       have hgw : g < w2.heap.size := by
        obtain ⟨cur, h1, _⟩ := HR2.out.blk (by rw [HR2.out.len, HSQ.out])
        exact h1.lt
       have hx2 : At w3 (some (g + 1)) x xc' := hx'.lo rfl hgw
       obtain ⟨cur, hcur, hcn, _⟩ := HR3.out.blk (by rw [HR3.out.len, HSQ.out])
       have hx19 := hx2.len
       have hxone : ∀ v ∈ xc', v.oneCell' = true := fun v hv => by
        have := hx2.one
        rw [zQ] at this
        exact this v (by simpa using hv)
       refine stepL_store_mid rfl 29 (.tmp 48) (.tmp 47) rfl g (j * 19) (.agg xc'.toArray) rfl rfl hcur (news := xc') rfl (by rw [hx19]; exact isz_29) (by rw [hx19]; omega) hxone ?_
       intro w4 cn hBn hxn hgn hzn
       have hgk : w.heap.size ≤ g := by have := HG.out; omega
       have HR4 : Hid (RSt w (w.heap.size + 2) g c4 s.n Q (R.set j (x, xc')) (j + 1) w4) := HR3.out.set (by rw [HR3.out.len, HSQ.out]) HJR.out hx2 HXE.out hcur hBn hxn hgn
       have HK4 := Hi (HK3.out.far hgn HG.out)
       have HL4 := Hi (HL3.out.other hgn hcur (by decide))
       have HS14 := Hi (HS13.out.other hgn hcur (by decide))
       have HS24 := Hi (HS23.out.other hgn hcur (by decide))
       have HS34 := Hi (HS33.out.other hgn hcur (by decide))
       clear hx' hx2 hcur hcn hx19 hxone hBn hxn hgn hzn hgk hgw hb3
       go_wp2
       go_roundw
       case rel => exact ⟨j + 1, R.set j (x, xc'), by omega, by go_num, HK4.out, HL4.out, HS14.out, HS24.out, HS34.out, HR4.out⟩
       case measure => simp [intOf]; omega
     · obtain rfl : j = s.n := by omega
       have HAT : Hid (At wr (some (w.heap.size + 2)) (.mk f (Q.map Prod.fst)) (f.rowL s1 s2 [m0, m1, m2, m3, m4] s3 ⟨some ⟨g, 0, none⟩, s.n, c4⟩)) := by
        unfold Hid
        refine clone_end HOK.out HLr.out HS1r.out HS2r.out HS3r.out ?_ ?_ HRr.out.fst
        · have := SlAt.of_own (bytes := 296) HRr.out.own HREA.out
          rw [HRr.out.len, HSQ.out]
          exact this
        · intro r hr
          obtain ⟨z, hz, rfl⟩ := List.mem_iff_getElem.1 hr
          exact (HRr.out.done z hz (by rw [← HSQ.out, ← HRr.out.len]; exact hz)).lo rfl (by have := HG.out; omega)
       clear q18 hlt hj

       obtain ⟨zr, hz1', hz2'⟩ := HKr.out.res
       have HZR := Hi hz1'
       have hzs : zr.size = 19 := hz2'
       have HINF : Hid ((Tryz.prog.info? 29).map (·.size) = some (f.rowL s1 s2 [m0, m1, m2, m3, m4] s3 ⟨some ⟨g, 0, none⟩, s.n, c4⟩).toArray.size) := by unfold Hid; rw [HKr.out.asize]; exact isz_29
       have HZS : Hid (zr.size = (f.rowL s1 s2 [m0, m1, m2, m3, m4] s3 ⟨some ⟨g, 0, none⟩, s.n, c4⟩).toArray.size) := by unfold Hid; rw [HKr.out.asize]; exact hzs
       clear hz1' hz2' hzs
       go_wp2_with (first
        | (refine wpList_load_row rfl 29 (.tmp 1) rfl w.heap.size rfl 29 _ _ _ HKr.out.blk zU29 rfl HINF.out ?_)
        | (refine wpList_store_row rfl 29 (.tmp 2) (.tmp 50) rfl (w.heap.size + 1) _ rfl rfl 29 _ HZR.out HINF.out HZS.out (rowL_one rfl) ?_
           generalize hww : World.setRow _ _ _ = wz
           have HGZ : Hid (wr.grownBy wz (some (w.heap.size + 1))) := by unfold Hid; rw [← hww]; exact only_setRow' _ _ _
           have HBZ : Hid (Blk wz (w.heap.size + 1) 29 (f.rowL s1 s2 [m0, m1, m2, m3, m4] s3 ⟨some ⟨g, 0, none⟩, s.n, c4⟩).toArray) := by unfold Hid; rw [← hww]; exact cells_setRow HZR.out
           clear hww))
       refine bodyPost_ret (results_cell_row rfl _ _ (w.heap.size + 1) 29 _ _ _ rfl HBZ.out zU29 rfl HINF.out) rfl ?_
       exact ⟨_, rfl, (HAT.out.grown rfl HGZ.out (by omega)).lo rfl (by omega), HKr.out.below.grown HGZ.out (by have := HKr.out.size; omega) (fun k hk => by injection hk with hk; omega)⟩
theorem opClone_any {w : World} {lo : Option Nat} {x : OpC} {cs : List Value} (h : At w lo x cs) : ∀ W, Below w.heap.size w W → Calls Tryz.prog 31 #[.agg cs.toArray] W (Cloned W x) := by
 induction h with
 | mk f d a k0 k1 k2 k3 k4 i s Q ok hd ha hk0 hk1 hk2 hk3 hk4 hi hs hQ ih =>
   intro W hW
   exact clone_walk f d a k0 k1 k2 k3 k4 i s Q W ok ⟨hd.later hW, ha.later hW, hk0.later hW, hk1.later hW, hk2.later hW, hk3.later hW, hk4.later hW, hi.later hW⟩ (hs.later hW) (fun q hq => (hQ q hq).later hW) (fun q hq W' hW' => ih q hq W' (hW.trans (hW'.mono hW.size))) _ rfl

mutual
def OpC.flat : OpC → List OpC
 | .mk f S => if f.t = 14 then flatL S else [.mk f S]
def flatL : List OpC → List OpC
 | [] => []
 | x :: r => x.flat ++ flatL r
end
mutual
theorem OpC.flat_len : ∀ x : OpC, x.flat.length = x.parts
 | .mk f S => by
   rw [OpC.flat, OpC.parts]
   split
   · exact flatL_len S
   · rfl
theorem flatL_len : ∀ S : List OpC, (flatL S).length = partsL S
 | [] => by rw [flatL, partsL]; rfl
 | x :: r => by rw [flatL, partsL, zG, OpC.flat_len x, flatL_len r]
end
theorem SlAt.window {w W : World} {b : Nat} {e : TypeId} {size bytes len : Nat} {s : Sl} {xs : List Value} (h : SlAt w (some b) e size bytes s len xs) (hk : ∀ k, b ≤ k → k < w.heap.size → W.heap[k]? = w.heap[k]?) : SlAt W (some b) e size bytes s len xs := by
 have ho : W.ownsRow b e size s.v s.n xs := by
  obtain ⟨h1, h2⟩ := h.own b rfl
  refine ⟨h1, ?_⟩
  rcases h2 with h2 | ⟨g, cap, cur, e1, e2, e3, e4⟩
  · exact .inl h2
  · refine .inr ⟨g, cap, cur, e1, e2, ?_, e4⟩
    have hlt : g < w.heap.size := by
     rcases Nat.lt_or_ge g w.heap.size with hlt | hge
     · exact hlt
     · rw [Array.getElem?_eq_none hge] at e3; cases e3
    exact (hk g e2 hlt).trans e3
 exact ⟨h.nil, h.le, h.cap, h.reach, h.len, Reads.of_own ho, fun c hc => by injection hc with hc; subst hc; exact ho⟩
theorem At.window {w W : World} {x : OpC} {cs : List Value} {lo : Option Nat} (h : At w lo x cs) : ∀ {b : Nat}, lo = some b → (∀ k, b ≤ k → k < w.heap.size → W.heap[k]? = w.heap[k]?) → At W (some b) x cs := by
 induction h with
 | mk f d a k0 k1 k2 k3 k4 i s Q ok hd ha hk0 hk1 hk2 hk3 hk4 hi hs _ ih =>
   intro b hlo hk
   subst hlo
   exact .mk f d a k0 k1 k2 k3 k4 i s Q ok (hd.window hk) (ha.window hk) (hk0.window hk) (hk1.window hk) (hk2.window hk) (hk3.window hk) (hk4.window hk) (hi.window hk) (hs.window hk) fun q hq => ih q hq rfl hk
def Win (W : World) (b e : Nat) (x : OpC) (cs : List Value) : Prop := ∃ w : World, At w (some b) x cs ∧ w.heap.size = e ∧ e ≤ W.heap.size ∧ ∀ k, b ≤ k → k < e → W.heap[k]? = w.heap[k]?
theorem Win.at_ {W : World} {b e : Nat} {x : OpC} {cs : List Value} (h : Win W b e x cs) : At W (some b) x cs := by
 obtain ⟨w, h1, h2, _, h4⟩ := h
 exact h1.window rfl fun k hk hl => h4 k hk (by omega)
theorem Win.new {W : World} {b : Nat} {x : OpC} {cs : List Value} (h : At W (some b) x cs) : Win W b W.heap.size x cs := ⟨W, h, rfl, Nat.le_refl _, fun _ _ _ => rfl⟩
theorem Win.later {W W' : World} {b e : Nat} {x : OpC} {cs : List Value} (h : Win W b e x cs) (hb : Below W.heap.size W W') : Win W' b e x cs := by
 obtain ⟨w, h1, h2, h3, h4⟩ := h
 exact ⟨w, h1, h2, Nat.le_trans h3 hb.size, fun k hk hl => (hb.block k (by omega)).trans (h4 k hk hl)⟩
theorem Win.grown {W W' : World} {b e : Nat} {row : Option Nat} {x : OpC} {cs : List Value} (h : Win W b e x cs) (hg : W.grownBy W' row) (hne : ∀ g, row = some g → g < b ∨ e ≤ g) : Win W' b e x cs := by
 obtain ⟨w, h1, h2, h3, h4⟩ := h
 refine ⟨w, h1, h2, Nat.le_trans h3 hg.size, fun k hk hl => (hg.block k (by omega) (fun e' => ?_)).trans (h4 k hk hl)⟩
 rcases hne k e'.symm with h | h <;> omega
structure FlatSt (base : Nat) (v : Value) (R : List (OpC × List Value)) (W : World) : Prop where
 own : W.ownsRow base 29 19 v R.length (R.flatMap Prod.snd)
 bs : base ≤ W.heap.size
 win : ∀ r ∈ R, ∃ b e, base ≤ b ∧ Win W b e r.1 r.2 ∧ ∀ g, v.ownBlock = some g → g < b ∨ e ≤ g
theorem FlatSt.later {base : Nat} {v : Value} {R : List (OpC × List Value)} {W W' : World} (h : FlatSt base v R W) (hb : Below W.heap.size W W') : FlatSt base v R W' :=
 ⟨own_below h.own hb, Nat.le_trans h.bs hb.size, fun r hr => by
   obtain ⟨b, e, h1, h2, h3⟩ := h.win r hr
   exact ⟨b, e, h1, h2.later hb, h3⟩⟩
theorem FlatSt.nil (W : World) : FlatSt W.heap.size (.slice none 0 0) [] W := ⟨World.ownsRow_nil _ _ _ _, Nat.le_refl _, fun _ hr => by cases hr⟩
theorem FlatSt.snoc {base b : Nat} {v v' : Value} {R : List (OpC × List Value)} {r : OpC × List Value} {W W' : World} (h : FlatSt base v R W) (hr : Win W b W.heap.size r.1 r.2) (hb : base ≤ b) (hv : ∀ g, v.ownBlock = some g → g < b)
 (hown : W'.ownsRow base 29 19 v' (R.length + 1) (R.flatMap Prod.snd ++ r.2)) (hg : W.grownBy W' v.ownBlock) (hat : v'.ownBlock = v.ownBlock ∨ v'.ownBlock = some W.heap.size) : FlatSt base v' (R ++ [r]) W' := by
 refine ⟨by simpa using hown, Nat.le_trans h.bs hg.size, fun q hq => ?_⟩
 rcases List.mem_append.1 hq with hq | hq
 · obtain ⟨b', e', h1, h2, h3⟩ := h.win q hq
   refine ⟨b', e', h1, h2.grown hg h3, fun g hgv => ?_⟩
   rcases hat with hat | hat
   · exact h3 g (by rw [← hat]; exact hgv)
   · rw [hat] at hgv
     injection hgv with hgv
     obtain ⟨_, _, _, h5, _⟩ := h2
     right
     omega
 · rw [List.mem_singleton] at hq
   subst hq
   refine ⟨b, W.heap.size, hb, hr.grown hg (fun g hgv => .inl (hv g hgv)), fun g hgv => ?_⟩
   rcases hat with hat | hat
   · exact .inl (hv g (by rw [← hat]; exact hgv))
   · rw [hat] at hgv
     injection hgv with hgv
     right
     omega
def Flatted (base : Nat) (W : World) (R : List (OpC × List Value)) (xs : List OpC) (e : Ending) (w' : World) : Prop :=
 ∃ A' c' R', e = .returned (.slice A' (R ++ R').length c') ∧ R'.map Prod.fst = xs ∧ FlatSt base (.slice A' (R ++ R').length c') (R ++ R') w' ∧ Below base W w'
theorem FlatSt.lt {base : Nat} {v : Value} {R : List (OpC × List Value)} {W : World} (h : FlatSt base v R W) {g : Nat} (hg : v.ownBlock = some g) : g < W.heap.size := (h.own.lt g hg).2

theorem flat_any {w0 : World} {lo : Option Nat} {x : OpC} {xs : List Value} (h : At w0 lo x xs) : ∀ (base : Nat) (W : World) (A : Option Addr) (n c : Nat) (R : List (OpC × List Value)), w0.heap.size ≤ base → Below base w0 W → FlatSt base (.slice A n c) R W → n = R.length → n + x.nodes ≤ 1000000 →
 Calls Tryz.prog 38 #[.slice A n c, .agg xs.toArray] W (Flatted base W R x.flat) := by
 induction h with
 | mk f d a k0 k1 k2 k3 k4 i s Q ok hd ha hk0 hk1 hk2 hk3 hk4 hi hs hQ ih =>
   intro base W A n c R hbase hW hF hn hb
   have hat : At w0 lo (.mk f (Q.map Prod.fst)) (f.row d a k0 k1 k2 k3 k4 i s) := .mk f d a k0 k1 k2 k3 k4 i s Q ok hd ha hk0 hk1 hk2 hk3 hk4 hi hs hQ
   obtain ⟨cs, hcs⟩ : ∃ cs : Array Value, cs = (f.row d a k0 k1 k2 k3 k4 i s).toArray := ⟨_, rfl⟩
   rw [← hcs]
   obtain ⟨w1, hw1⟩ := xa W cs 29
   have hz1 : w1.heap.size = W.heap.size + 1 := by rw [← hw1]; simp
   have hb1 := zV hw1
   have HN1 := Hi (zW hw1)
   have HC0 : Hid (cs[0]? = some (.int .i32 f.t)) := by unfold Hid; rw [hcs]; rfl
   have HC18 : Hid (cs[18]? = some (.slice s.A s.n s.c)) := by unfold Hid; rw [hcs]; rfl
   have HZ : Hid ((Tryz.prog.info? 29).map (·.size) = some cs.size) := by unfold Hid; rw [hcs, zO, OpF.row_len]; exact isz_29
   have c0 := yC HN1.out 0 HC0.out
   have c18 := yC HN1.out 18 HC18.out
   have HF1 := Hi (hF.later hb1)
   have HBW : Hid (Below base W w1) := hb1.mono hF.bs
   have HB0 := Hi (hW.trans HBW.out)
   have HF := Hi hF
   have HN := Hi hn
   have HNO : Hid (n + (nodesL (Q.map Prod.fst) + 1) ≤ 1000000) := by rw [OpC.nodes] at hb; exact hb
   have hW0 : Below w0.heap.size w0 w1 := HB0.out.mono hbase
   have HCL : Hid (∀ W', Below w1.heap.size w1 W' → Calls Tryz.prog 31 #[.agg cs] W' (Cloned W' (.mk f (Q.map Prod.fst)))) := fun W' hW' => by rw [hcs]; exact opClone_any hat W' (hW0.trans (hW'.mono hW0.size))
   have hs1 := hs.later hW0
   have HRD : Hid (Reads w1 w0.heap.size 19 s.A s.n (Q.flatMap Prod.snd)) := hs.reads.below hW0
   have HQ := Hi hQ
   have HSQ : Hid (Q.length = s.n) := hs.len
   have HIH := Hi ih
   have HBASE := Hi hbase
   have hsb : s.n ≤ 4611686018427387904 := hs.bd (by decide)
   have hnb : n ≤ 1000000 := by omega
   clear hat hcs hb1 hF hn hb hW hd ha hk0 hk1 hk2 hk3 hk4 hi hs hQ ih hW0 hs1 hbase ok
   rw [OpC.flat]
   by_cases ht : f.t = 14
   rotate_left
   · rw [if_neg ht]
     have hF1 := HF1.out
     go_enter Tryz.func38, Tryz.ntmps38
     obtain ⟨i0, hi0, hz0, hzi1, hzi2⟩ := info_parts op_info
     go_wp2_with (first
      | (refine wpList_load_row rfl 29 (.tmp 3) rfl W.heap.size rfl 29 _ _ _ HN1.out zU29 rfl HZ.out ?_)
      | (go_at_call 31
         refine (HCL.out _ zT).mono ?_
         rintro e w2 ⟨rc, rfl, hrc, hb2⟩
         have HRC := Hi hrc
         have HF2 := Hi (HF1.out.later hb2)
         have HB2 := Hi (HBW.out.trans (hb2.mono HF1.out.bs))
         have HL2 : Hid (∀ g, (Value.slice A n c).ownBlock = some g → g < w1.heap.size) := fun g hg => HF1.out.lt hg
         have HRS : Hid ((Value.agg rc.toArray).cells.size = 19) := by unfold Hid; show rc.toArray.size = 19; rw [zO, hrc.len]
         clear hb2 hrc)
      | (refine wpList_build1 rfl 27 29 (.tmp 12) rfl (.agg rc.toArray) rfl 19 zU27 isz_29 zer_op (by decide) HRS.out ?_
         obtain ⟨w3, hw3⟩ := xa w2 (rc.toArray) 29
         have hc3 : (Value.agg rc.toArray).cells = rc.toArray := rfl
         rw [hc3, hw3]
         have hb3 := zV hw3
         have hn3 := zW hw3
         have hz3 : w3.heap.size = w2.heap.size + 1 := (by rw [← hw3]; simp)
         have HF3 := Hi (HF2.out.later hb3)
         have HB3 := Hi (HB2.out.trans (hb3.mono HF2.out.bs))
         have HW3 : Hid (Win w3 w1.heap.size w3.heap.size (.mk f (Q.map Prod.fst)) rc) := Win.new (HRC.out.later hb3)
         have HR3 : Hid (Reads w3 w3.heap.size 19 (some ⟨w2.heap.size, 0, none⟩) 1 rc) := ⟨(by rw [HRC.out.len]), fun _ => ⟨⟨w2.heap.size, 0, none⟩, rfl, hn3.lt, fun j u hj => (by rw [zN, Nat.zero_add, hn3.cell]; simpa using hj)⟩⟩
         have HO3 : Hid (∀ u ∈ rc, u.oneCell' = true) := fun v hv => (by
          have := HRC.out.one
          rw [zQ] at this
          exact this v (by simpa using hv))
         have HOW : Hid (w3.ownsRow base 29 19 (.slice A n c) n (R.flatMap Prod.snd)) := (by unfold Hid; have := HF3.out.own; rwa [← HN.out] at this)
         clear hw3 hc3 hb3 hn3)
      | (at_builtin
         refine wpList_append_any _ rfl (.tmp 10) (.tmp 13) _ rfl base 29 i0 _ 19 296 zU27 hi0 hz0 hzi1 hzi2 rfl (by decide) (.slice A n c) n (R.flatMap Prod.snd) rfl HOW.out w3.heap.size (some ⟨w2.heap.size, 0, none⟩) 1 1 rc rfl HR3.out HO3.out (by unfold maxLen; omega) (by omega) HF3.out.bs ?_
         intro v4 w4 hown4 hg4 hat4
         obtain ⟨A4, c4, rfl⟩ := slice_form hown4
         have HOW4 := Hi hown4
         have HG4 := Hi hg4
         have HA4 := Hi hat4
         clear hown4 hg4 hat4))
     go_ret
     refine ⟨A4, c4, [(.mk f (Q.map Prod.fst), rc)], by rw [zG, HN.out]; rfl, rfl, ?_, ?_⟩
     · have h4 : w4.ownsRow base 29 19 (.slice A4 (n + 1) c4) (R.length + 1) (R.flatMap Prod.snd ++ rc) := by have := HOW4.out; rwa [HN.out] at this ⊢
       have := HF3.out.snoc (b := w1.heap.size) (r := (.mk f (Q.map Prod.fst), rc)) HW3.out HF1.out.bs HL2.out h4 HG4.out HA4.out
       rw [zG, ← HN.out]
       exact this
     · exact HB3.out.grown HG4.out HF3.out.bs (fun k hk => (HOW.out.lt k hk).1)
   · rw [if_pos ht]
     obtain ⟨S, hS⟩ : ∃ S, S = Q.map Prod.fst := ⟨_, rfl⟩
     have HSM := Hi hS
     rw [← hS] at HNO ⊢
     clear hS HCL
     obtain ⟨sA, N, sc⟩ := s
     dsimp only at HC18 c18 HRD HSQ hsb
     go_enter Tryz.func38, Tryz.ntmps38
     go_wp2
     clear c0 c18
     go_loopw [0, 18] (fun v0 vi wr => ∃ (k n' : Nat) (A' : Option Addr) (c' : Nat) (R' : List (OpC × List Value)), k ≤ N ∧ n' ≤ 1000000 ∧ v0 = .slice A' n' c' ∧ vi = .int .i64 (k : Int) ∧ Hid (n' = (R ++ R').length) ∧ Hid (FlatSt base (.slice A' n' c') (R ++ R') wr) ∧ Hid (R'.map Prod.fst ++ flatL (S.drop k) = flatL S) ∧ Hid (R'.length + nodesL (S.drop k) ≤ nodesL S) ∧ Hid (Below base w1 wr)) (fun _ vi _ => N - (intOf vi).toNat)
     case atStart => exact ⟨0, n, A, c, [], by omega, by omega, rfl, rfl, (by unfold Hid; rw [List.append_nil]; exact HN.out), (by unfold Hid; rw [List.append_nil]; exact HF1.out), (by unfold Hid; simp), (by unfold Hid; simp), Below.refl _ _⟩
     case round =>
      clear HF1 HF
      obtain ⟨k, n', A', c', R', hk, hn', rfl, rfl, HN', HFr, HM, HNB, HW⟩ := hrel
      by_cases hkn : k < N
      · have hkQ : k < Q.length := by rw [HSQ.out]; exact hkn
        have hb0 : Below w0.heap.size w0 w1 := HB0.out.mono HBASE.out
        have hbw : Below base w0 wr := HB0.out.trans HW.out
        have hb1 : Below w0.heap.size w0 wr := hbw.mono HBASE.out
        have hrd : Reads wr w0.heap.size 19 sA N (Q.flatMap Prod.snd) := HRD.out.keep fun p hp => HW.out.cell (Nat.lt_of_lt_of_le hp HBASE.out)
        obtain ⟨ad, hA, hrow⟩ := rowAt hrd HQ.out hkQ HSQ.out
        subst hA
        have hdrop : S.drop k = (Q[k]).1 :: S.drop (k + 1) := by
         rw [HSM.out, List.drop_eq_getElem_cons (by simpa using hkQ)]
         simp
        have hih := HIH.out (Q[k]) (List.getElem_mem _)
        obtain ⟨⟨x, xc⟩, hx⟩ : ∃ x, x = Q[k] := ⟨_, rfl⟩
        rw [← hx] at hrow hdrop hih
        dsimp only at hrow hdrop hih
        have hnb := HNB.out
        have hno := HNO.out
        have hnl := HN'.out
        have hnn := HN.out
        rw [zG] at hnl
        rw [hdrop, nodesL] at hnb
        have HNX : Hid (n' + x.nodes ≤ 1000000) := by unfold Hid; omega
        have HROW := Hi hrow
        have HDR := Hi hdrop
        have HIK := Hi hih
        have HBR := Hi hbw
        have HXN : Hid (R'.length + (x.nodes + nodesL (S.drop (k + 1))) ≤ nodesL S) := hnb
        have HXL := Hi (OpC.flat_len x)
        have HXC := Hi (OpC.counts_le x).1
        obtain ⟨w2, hw2⟩ := xa wr (xc.toArray) 29
        have HN2 := Hi (zW hw2)
        have hb2 := zV hw2
        have HF2 := Hi (HFr.out.later hb2)
        have HW2 : Hid (Below base w1 w2) := HW.out.trans (hb2.mono HFr.out.bs)
        clear hx hrow hdrop hih hbw hkQ hb0 hb1 hrd hnb hno hnl hnn hb2
        go_wp2_with (first
         | (refine wpList_load_at (by rfl) 29 (.tmp 20) rfl (ad.add (k * 19)) rfl xc _ HROW.out.cells zU29 rfl HROW.out.info ?_)
         | (refine wpList_newrow rfl rfl 29 rfl 6 rfl (.tmp 21) rfl rfl xc.toArray (fun _ => rfl) (show 6 < 27 by decide) HROW.out.zero HROW.out.infoA HROW.out.one ?_
            rw [hw2])
         | (refine wpList_load_row rfl 29 (.tmp 6) rfl wr.heap.size rfl 29 _ _ _ HN2.out zU29 rfl HROW.out.infoA ?_)
         | (go_at_call 38
            refine (HIK.out base _ A' n' c' (R ++ R') HBASE.out (HB0.out.trans HW2.out) HF2.out HN'.out HNX.out).mono ?_
            rintro e w3 ⟨A3, c3, R3, rfl, hm3, hF3, hb3⟩
            rw [zL] at hF3
            have HF3 := Hi hF3
            have HM3 : Hid ((R' ++ R3).map Prod.fst ++ flatL (S.drop (k + 1)) = flatL S) := (by unfold Hid; rw [← HM.out, HDR.out, flatL, List.map_append, hm3, zL])
            have HL3 : Hid (R3.length ≤ x.nodes) := (by unfold Hid; have h1 := congrArg List.length hm3; rw [List.length_map] at h1; have h2 := HXL.out; have h3 := HXC.out; omega)
            have HW3 : Hid (Below base w1 w3) := HW2.out.trans hb3
            clear hb3 hF3 hm3))
        have hbnd : (R ++ R' ++ R3).length ≤ 1000000 := by
         have h1 := HL3.out
         have h2 := HXN.out
         have h3 := HNO.out
         have h4 := HN.out
         simp only [zG]
         omega
        have HNN : Hid ((R ++ R' ++ R3).length = (R ++ (R' ++ R3)).length) := by unfold Hid; rw [zL]
        have HXN2 : Hid ((R' ++ R3).length + nodesL (S.drop (k + 1)) ≤ nodesL S) := by
         have h1 := HL3.out
         have h2 := HXN.out
         unfold Hid
         rw [zG]
         omega
        rw [HNN.out] at hbnd
        go_roundw
        case rel => exact ⟨k + 1, (R ++ (R' ++ R3)).length, A3, c3, R' ++ R3, by omega, hbnd, by simp [zG], by go_num, rfl, HF3.out, HM3.out, HXN2.out, HW3.out⟩
        case measure => simp [intOf]; omega
      · obtain rfl : k = N := by omega
        have HM2 : Hid (R'.map Prod.fst = flatL S) := by
         have h := HM.out
         rw [List.drop_eq_nil_of_le (by rw [HSM.out, List.length_map, HSQ.out]; exact Nat.le_refl _), flatL, List.append_nil] at h
         exact h
        clear HM HNB
        go_wp2
        go_ret
        exact ⟨A', c', R', by rw [← HN'.out]; rfl, HM2.out, by rw [← HN'.out]; exact HFr.out, HBW.out.trans HW.out⟩

abbrev OqoR1 (t : Int) : Array Value := #[.int .i32 t, .string ⟨#[]⟩, .slice none 0 0, .slice none 0 0, .int .i32 0, .int .i32 0, .bool false, .int .i64 0, .int .i64 0, .int .i64 0, .int .i64 0, .slice none 0 0, .slice none 0 0, .slice none 0 0, .slice none 0 0, .slice none 0 0, .int .i32 0, .slice none 0 0, .slice none 0 0]
abbrev OqoR2 (t : Int) (f : OpF) : Array Value := #[.int .i32 t, .string f.p, .slice none 0 0, .slice none 0 0, .int .i32 0, .int .i32 0, .bool false, .int .i64 0, .int .i64 0, .int .i64 0, .int .i64 0, .slice none 0 0, .slice none 0 0, .slice none 0 0, .slice none 0 0, .slice none 0 0, .int .i32 0, .slice none 0 0, .slice none 0 0]
abbrev OqoR3 (t : Int) (f : OpF) : Array Value := #[.int .i32 t, .string f.p, .slice none 0 0, .slice none 0 0, .int .i32 0, .int .i32 0, .bool f.wa, .int .i64 0, .int .i64 0, .int .i64 0, .int .i64 0, .slice none 0 0, .slice none 0 0, .slice none 0 0, .slice none 0 0, .slice none 0 0, .int .i32 0, .slice none 0 0, .slice none 0 0]

def nilS : Sl := ⟨none, 0, 0⟩
def tP : List Int := [1, 15, 19, 21, 2, 13, 5, 7, 120, 121, 6, 9, 103, 104, 20, 3, 4, 8, 12, 106, 18]
def tD : List Int := [1, 15, 19, 21, 5]
def tA : List Int := [1, 15, 19, 21, 7]
def tF : List Int := [1, 15, 19, 21, 106, 18]
def tV : List Int := [2, 13, 5, 7]
def tW : List Int := [3, 4, 8, 12]
def tC : List Int := [120]
def tL : List Int := [21]
def tZ : List Int := [101]
def tT : List Int := [(-10)]
def tS : List Int := [14, 22]
def keptF (f : OpF) : OpF := ⟨f.t, if f.t ∈ tP then f.p else ⟨#[]⟩, if f.t ∈ tD then f.l else [], if f.t ∈ tA then f.L else [], if f.t ∈ tF then f.fl else 0, if f.t ∈ tV then f.ve else 0, if f.t ∈ tW then f.wa else false, if f.t ∈ tC then f.ct else 0, if f.t ∈ tC then f.by_ else 0, if f.t ∈ tL then f.tl else 0, if f.t ∈ tZ then f.zx else 0,
 if f.t ∈ tZ then f.K0 else [], if f.t ∈ tZ then f.K1 else [], if f.t ∈ tZ then f.K2 else [], if f.t ∈ tZ then f.K3 else [], if f.t ∈ tZ then f.K4 else [], if f.t ∈ tT then f.to else 0, if f.t ∈ tT then f.I else []⟩
def kS (l : List Int) (t : Int) (s : Sl) : Sl := if t ∈ l then s else nilS
def keptRow (f : OpF) (d a k0 k1 k2 k3 k4 i s : Sl) : List Value := (keptF f).row (kS tD f.t d) (kS tA f.t a) (kS tZ f.t k0) (kS tZ f.t k1) (kS tZ f.t k2) (kS tZ f.t k3) (kS tZ f.t k4) (kS tT f.t i) (kS tS f.t s)

def SwNo (t : Int) : List Int → Prop
 | [] => True
 | c :: r => (t == c) = false ∧ SwNo t r
theorem sw_all {l cs : List Int} {t : Int} (h : t ∈ l) (hc : (cs.all fun c => !l.contains c) = true) : SwNo t cs := by
 induction cs with
 | nil => trivial
 | cons c r ih =>
   rw [List.all_cons, Bool.and_eq_true] at hc
   refine ⟨?_, ih hc.2⟩
   rw [beq_eq_false_iff_ne]
   rintro rfl
   rw [List.contains_iff_mem.2 h] at hc
   exact absurd hc.1 (by decide)


theorem kept_g6 (t : Int) (htt : t ∈ ([121, 6, 9, 103, 104, 20] : List Int)) (f : OpF) (d a k0 k1 k2 k3 k4 i s : Sl) (w : World) (ht : f.t = t) : Calls Tryz.prog 112 #[.agg (f.row d a k0 k1 k2 k3 k4 i s).toArray] w fun e w' => e = .returned (.agg (keptRow f d a k0 k1 k2 k3 k4 i s).toArray) ∧ Below w.heap.size w w' := by
 have HE : Hid ((keptRow f d a k0 k1 k2 k3 k4 i s).toArray = (OqoR2 t f)) := by
  unfold Hid keptRow keptF kS
  rw [ht]
  simp only [zH, zI, or_false] at htt
  rcases htt with rfl | rfl | rfl | rfl | rfl | rfl <;> simp [tP, tD, tA, tF, tV, tW, tC, tL, tZ, tT, tS, OpF.row, Sl.v, nilS]
 rw [HE.out]
 obtain ⟨cs, hcs⟩ : ∃ cs : Array Value, cs = (f.row d a k0 k1 k2 k3 k4 i s).toArray := ⟨_, rfl⟩
 rw [← hcs]
 have hc0 : cs[0]? = some (.int .i32 t) := by rw [hcs, ← ht]; rfl
 have HC0 := Hi hc0
 have HCS := Hi hcs
 obtain ⟨w1, hw1⟩ := xa w cs 29
 have hz1 : w1.heap.size = w.heap.size + 1 := by rw [← hw1]; simp
 have HN1 := Hi (zW hw1)
 have HB1 := Hi (zV hw1)
 clear hc0 hcs ht HE
 obtain ⟨n0, n1, n2, n3, n4, n5, n6, n7, n8, n9, n10, n11, n12, n13, n14, n15, n16, n17, n18, n19, n20, n21, _⟩ := sw_all (cs := [14, 22, 101, (-10), (-11), 11, 107, 1, 15, 19, 21, 2, 13, 5, 7, 120, 3, 4, 8, 12, 106, 18]) htt rfl
 clear htt
 go_enter Tryz.func112, Tryz.ntmps112
 go_wp2_with (first
  | (refine wpList_new rfl 29 rfl zer_op ?_
     intro old hold
     obtain ⟨w2, hw2⟩ := xa w1 old 29
     rw [hw2]
     have hz2 : w2.heap.size = w.heap.size + 2 := (by rw [← hw2]; simp [hz1])
     have HN2 : Hid (Blk w2 w.heap.size 29 cs) := (by unfold Hid; rw [← hw2]; exact HN1.out.alloc _)
     have HZ2 : Hid (Blk w2 (w.heap.size + 1) 29 old) := (by unfold Hid; rw [← hw2]; exact Blk.new' hz1.symm)
     have HB2 : Hid (Below w.heap.size w w2) := (by unfold Hid; rw [← hw2]; exact HB1.out.alloc (by omega) _)
     have HOLD := Hi hold
     have c0 := yC HN2.out 0 HC0.out
     clear hw2 hold)
  | (refine wpList_newrow rfl rfl 29 rfl 3 rfl (.tmp 6) rfl rfl (OqoR1 t) (fun _ => rfl) (show 3 < 116 by decide) zer_op isz_29 (by simp [Value.oneCell']) ?_
     obtain ⟨w3, hw3⟩ := xa w2 (OqoR1 t) 29
     rw [hw3]
     have hz3 : w3.heap.size = w.heap.size + 3 := (by rw [← hw3]; simp [hz2])
     have HN3 : Hid (Blk w3 w.heap.size 29 cs) := (by unfold Hid; rw [← hw3]; exact HN2.out.alloc _)
     have HZ3 : Hid (Blk w3 (w.heap.size + 1) 29 old) := (by unfold Hid; rw [← hw3]; exact HZ2.out.alloc _)
     have HP3 : Hid (Blk w3 (w.heap.size + 2) 29 (OqoR1 t)) := (by unfold Hid; rw [← hw3]; exact Blk.new' hz2.symm)
     have HB3 : Hid (Below w.heap.size w w3) := (by unfold Hid; rw [← hw3]; exact HB2.out.alloc (by omega) _)
     have d0 := yC HN3.out 0 HC0.out
     have d1 := yC HN3.out 1 (by rw [HCS.out]; rfl : cs[1]? = some (.string f.p))
     clear hw3 c0 HN2 HZ2 HB2)
  | (with_reducible refine wpSt 41 ?_
     refine wpList_store_mid rfl 9 (.tmp 41) (.tmp 40) rfl (w.heap.size + 2) 1 (.string f.p) rfl rfl HP3.out (news := [.string f.p]) rfl isz_9 (by simp) (by simp [Value.oneCell']) ?_
     intro w4 cn hBn hxn hgn hzn
     have hz4 : w4.heap.size = w.heap.size + 3 := (by rw [hzn, hz3])
     have HN4 : Hid (Blk w4 w.heap.size 29 cs) := HN3.out.grown hgn (by simp)
     have HZ4 : Hid (Blk w4 (w.heap.size + 1) 29 old) := HZ3.out.grown hgn (by simp)
     have HP4 : Hid (Blk w4 (w.heap.size + 2) 29 (OqoR2 t f)) := (by
      have e : cn = (OqoR2 t f) := Array.ext' hxn
      unfold Hid; rw [← e]; exact hBn)
     have HB4 : Hid (Below w.heap.size w w4) := HB3.out.grown hgn (by omega) (fun k hk => by injection hk with hk; omega)
     have e0 := yC HN4.out 0 HC0.out
     clear d0 d1
     clear hBn hxn hgn hzn)
  | (with_reducible refine wpAq 115 ?_
     refine wpList_load_row rfl 29 (.tmp 3) rfl (w.heap.size + 2) rfl 29 _ _ _ HP4.out zU29 rfl isz_29 ?_)
  | (with_reducible refine wpSt 2 ?_
     refine wpList_store_row rfl 29 (.tmp 2) (.tmp 115) rfl (w.heap.size + 1) (OqoR2 t f) rfl rfl 29 _ HZ4.out isz_29 (by rw [HOLD.out]; rfl) (by simp [Value.oneCell']) ?_
     generalize hww : World.setRow _ _ _ = wz
     have HBZ : Hid (Blk wz (w.heap.size + 1) 29 (OqoR2 t f)) := (by unfold Hid; rw [← hww]; exact cells_setRow HZ4.out)
     have HBB : Hid (Below w.heap.size w wz) := (by unfold Hid; rw [← hww]; exact below_setRow' HB4.out (by omega) _)
     clear hww))
 refine bodyPost_ret (results_cell_row rfl _ _ (w.heap.size + 1) 29 _ _ _ rfl HBZ.out zU29 rfl isz_29) rfl ?_
 exact ⟨rfl, HBB.out⟩
theorem kept_g7 (t : Int) (htt : t ∈ ([3, 4, 8, 12] : List Int)) (f : OpF) (d a k0 k1 k2 k3 k4 i s : Sl) (w : World) (ht : f.t = t) : Calls Tryz.prog 112 #[.agg (f.row d a k0 k1 k2 k3 k4 i s).toArray] w fun e w' => e = .returned (.agg (keptRow f d a k0 k1 k2 k3 k4 i s).toArray) ∧ Below w.heap.size w w' := by
 have HE : Hid ((keptRow f d a k0 k1 k2 k3 k4 i s).toArray = (OqoR3 t f)) := by
  unfold Hid keptRow keptF kS
  rw [ht]
  simp only [zH, zI, or_false] at htt
  rcases htt with rfl | rfl | rfl | rfl <;> simp [tP, tD, tA, tF, tV, tW, tC, tL, tZ, tT, tS, OpF.row, Sl.v, nilS]
 rw [HE.out]
 obtain ⟨cs, hcs⟩ : ∃ cs : Array Value, cs = (f.row d a k0 k1 k2 k3 k4 i s).toArray := ⟨_, rfl⟩
 rw [← hcs]
 have hc0 : cs[0]? = some (.int .i32 t) := by rw [hcs, ← ht]; rfl
 have HC0 := Hi hc0
 have HCS := Hi hcs
 obtain ⟨w1, hw1⟩ := xa w cs 29
 have hz1 : w1.heap.size = w.heap.size + 1 := by rw [← hw1]; simp
 have HN1 := Hi (zW hw1)
 have HB1 := Hi (zV hw1)
 clear hc0 hcs ht HE
 obtain ⟨n0, n1, n2, n3, n4, n5, n6, n7, n8, n9, n10, n11, n12, n13, n14, n15, n16, n17, _⟩ := sw_all (cs := [14, 22, 101, (-10), (-11), 11, 107, 1, 15, 19, 21, 2, 13, 5, 7, 120, 106, 18]) htt rfl
 have S : ((t == 3) = true) ∨ ((t == 3) = false ∧ (t == 4) = true) ∨ ((t == 3) = false ∧ (t == 4) = false ∧ (t == 8) = true) ∨ ((t == 3) = false ∧ (t == 4) = false ∧ (t == 8) = false ∧ (t == 12) = true) := by
  simp only [zH, zI, or_false] at htt
  rcases htt with rfl | rfl | rfl | rfl <;> decide
 clear htt
 rcases S with s0 | ⟨s0, s1⟩ | ⟨s0, s1, s2⟩ | ⟨s0, s1, s2, s3⟩
 all_goals
  go_enter Tryz.func112, Tryz.ntmps112
  go_wp2_with (first
   | (refine wpList_new rfl 29 rfl zer_op ?_
      intro old hold
      obtain ⟨w2, hw2⟩ := xa w1 old 29
      rw [hw2]
      have hz2 : w2.heap.size = w.heap.size + 2 := (by rw [← hw2]; simp [hz1])
      have HN2 : Hid (Blk w2 w.heap.size 29 cs) := (by unfold Hid; rw [← hw2]; exact HN1.out.alloc _)
      have HZ2 : Hid (Blk w2 (w.heap.size + 1) 29 old) := (by unfold Hid; rw [← hw2]; exact Blk.new' hz1.symm)
      have HB2 : Hid (Below w.heap.size w w2) := (by unfold Hid; rw [← hw2]; exact HB1.out.alloc (by omega) _)
      have HOLD := Hi hold
      have c0 := yC HN2.out 0 HC0.out
      clear hw2 hold)
   | (refine wpList_newrow rfl rfl 29 rfl 3 rfl (.tmp 6) rfl rfl (OqoR1 t) (fun _ => rfl) (show 3 < 116 by decide) zer_op isz_29 (by simp [Value.oneCell']) ?_
      obtain ⟨w3, hw3⟩ := xa w2 (OqoR1 t) 29
      rw [hw3]
      have hz3 : w3.heap.size = w.heap.size + 3 := (by rw [← hw3]; simp [hz2])
      have HN3 : Hid (Blk w3 w.heap.size 29 cs) := (by unfold Hid; rw [← hw3]; exact HN2.out.alloc _)
      have HZ3 : Hid (Blk w3 (w.heap.size + 1) 29 old) := (by unfold Hid; rw [← hw3]; exact HZ2.out.alloc _)
      have HP3 : Hid (Blk w3 (w.heap.size + 2) 29 (OqoR1 t)) := (by unfold Hid; rw [← hw3]; exact Blk.new' hz2.symm)
      have HB3 : Hid (Below w.heap.size w w3) := (by unfold Hid; rw [← hw3]; exact HB2.out.alloc (by omega) _)
      have d0 := yC HN3.out 0 HC0.out
      have d1 := yC HN3.out 1 (by rw [HCS.out]; rfl : cs[1]? = some (.string f.p))
      clear hw3 c0 HN2 HZ2 HB2)
   | (with_reducible refine wpSt 41 ?_
      refine wpList_store_mid rfl 9 (.tmp 41) (.tmp 40) rfl (w.heap.size + 2) 1 (.string f.p) rfl rfl HP3.out (news := [.string f.p]) rfl isz_9 (by simp) (by simp [Value.oneCell']) ?_
      intro w4 cn hBn hxn hgn hzn
      have hz4 : w4.heap.size = w.heap.size + 3 := (by rw [hzn, hz3])
      have HN4 : Hid (Blk w4 w.heap.size 29 cs) := HN3.out.grown hgn (by simp)
      have HZ4 : Hid (Blk w4 (w.heap.size + 1) 29 old) := HZ3.out.grown hgn (by simp)
      have HP4 : Hid (Blk w4 (w.heap.size + 2) 29 (OqoR2 t f)) := (by
       have e : cn = (OqoR2 t f) := Array.ext' hxn
       unfold Hid; rw [← e]; exact hBn)
      have HB4 : Hid (Below w.heap.size w w4) := HB3.out.grown hgn (by omega) (fun k hk => by injection hk with hk; omega)
      have e0 := yC HN4.out 0 HC0.out
      have e6 := yC HN4.out 6 (by rw [HCS.out]; rfl : cs[6]? = some (.bool f.wa))
      clear d0 d1
      clear hBn hxn hgn hzn)
   | (with_reducible refine wpSt 108 ?_
      refine wpList_store_mid rfl 4 (.tmp 108) (.tmp 107) rfl (w.heap.size + 2) 6 (.bool f.wa) rfl rfl HP4.out (news := [.bool f.wa]) rfl isz_4 (by simp) (by simp [Value.oneCell']) ?_
      intro w5 cn hBn hxn hgn hzn
      have hz5 : w5.heap.size = w.heap.size + 3 := (by rw [hzn, hz4])
      have HN5 : Hid (Blk w5 w.heap.size 29 cs) := HN4.out.grown hgn (by simp)
      have HZ5 : Hid (Blk w5 (w.heap.size + 1) 29 old) := HZ4.out.grown hgn (by simp)
      have HP5 : Hid (Blk w5 (w.heap.size + 2) 29 (OqoR3 t f)) := (by
       have e : cn = (OqoR3 t f) := Array.ext' hxn
       unfold Hid; rw [← e]; exact hBn)
      have HB5 : Hid (Below w.heap.size w w5) := HB4.out.grown hgn (by omega) (fun k hk => by injection hk with hk; omega)
      clear hBn hxn hgn hzn)
   | (with_reducible refine wpAq 115 ?_
      refine wpList_load_row rfl 29 (.tmp 3) rfl (w.heap.size + 2) rfl 29 _ _ _ HP5.out zU29 rfl isz_29 ?_)
   | (with_reducible refine wpSt 2 ?_
      refine wpList_store_row rfl 29 (.tmp 2) (.tmp 115) rfl (w.heap.size + 1) (OqoR3 t f) rfl rfl 29 _ HZ5.out isz_29 (by rw [HOLD.out]; rfl) (by simp [Value.oneCell']) ?_
      generalize hww : World.setRow _ _ _ = wz
      have HBZ : Hid (Blk wz (w.heap.size + 1) 29 (OqoR3 t f)) := (by unfold Hid; rw [← hww]; exact cells_setRow HZ5.out)
      have HBB : Hid (Below w.heap.size w wz) := (by unfold Hid; rw [← hww]; exact below_setRow' HB5.out (by omega) _)
      clear hww))
  refine bodyPost_ret (results_cell_row rfl _ _ (w.heap.size + 1) 29 _ _ _ rfl HBZ.out zU29 rfl isz_29) rfl ?_
  exact ⟨rfl, HBB.out⟩
end Go.Proofs.YtpjjnmdfgcfnmaaGreatDoor
