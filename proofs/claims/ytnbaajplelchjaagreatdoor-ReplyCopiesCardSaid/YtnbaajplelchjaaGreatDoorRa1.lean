/- What copies of results need: clones of lists, boxes, rows. (printed by gen_ra1.py, turned from the operations' texts) -/
import Derived.Test.YtnbaajplelchjaaGreatDoorRs4
import Derived.Test.YtnbaajplelchjaaGreatDoorTail
import Derived.Test.YtnbaajplelchjaaGreatDoorSeq
import Derived.Test.YtnbaajplelchjaaGreatDoorRow
import Derived.LoopN
set_option linter.unusedVariables false
set_option linter.unusedSimpArgs false
namespace Go.Proofs.YtnbaajplelchjaaGreatDoor
open Go.RowKit

theorem SlAt.bd {w : World} {lo : Option Nat} {e : TypeId} {size bytes len : Nat} {s : Sl} {xs : List Value} (h : SlAt w lo e size bytes s len xs) (hb : 0 < bytes) : s.n ≤ 4611686018427387904 := by
  have h1 := h.reach
  have h2 : s.n * 1 ≤ s.n * bytes := Nat.mul_le_mul_left _ hb
  unfold reachBytes at h1
  omega

theorem At.one {w : World} {lo : Option Nat} {x : ResC} {cs : List Value} (h : At w lo x cs) : cs.toArray.all (·.oneCell') = true := by
  cases h
  simp [ResF.row, Sl.v, Value.oneCell']
theorem zer_res : ((Tryz.prog.info? 33).bind (·.zero)).map (·.cells.size) = some 22 := by kernel_rfl
/-- what a row of a list is good for -/
structure RowAt (wr : World) (ad : Addr) (k : Nat) (xc : List Value) : Prop where
  cells : ∀ j v, xc[j]? = some v → wr.cell? ((ad.add (k * 22)).add j) = some v
  info : (Tryz.prog.info? 33).map (·.size) = some xc.length
  infoA : (Tryz.prog.info? 33).map (·.size) = some xc.toArray.size
  zero : ((Tryz.prog.info? 33).bind (·.zero)).map (·.cells.size) = some xc.toArray.size
  one : xc.toArray.all (·.oneCell') = true
theorem rowAt {w0 w : World} {lo : Option Nat} {B n : Nat} {A : Option Addr} {Q : List (ResC × List Value)} (h : Reads w B 22 A n (Q.flatMap Prod.snd)) (hQ : ∀ q ∈ Q, At w0 lo q.1 q.2) {j : Nat} (hj : j < Q.length) (hn : Q.length = n) :
    ∃ ad, A = some ad ∧ RowAt w ad j (Q[j]).2 := by
  obtain ⟨ad, hA, hc⟩ := subs_cells h (fun q hq => (hQ q hq).len) hn hj
  have h22 := (hQ _ (List.getElem_mem hj)).len
  exact ⟨ad, hA, hc, by rw [h22]; exact isz_33, by rw [List.size_toArray, h22]; exact isz_33, by rw [List.size_toArray, h22]; exact zer_res, (hQ _ (List.getElem_mem hj)).one⟩

theorem u8O_info : (Tryz.prog.info? 5).map (fun i => (i.zero, i.size, i.bytes)) = some (some (.int .u8 0), 1, 1) := by kernel_rfl
theorem acl_info : (Tryz.prog.info? 115).map (fun i => (i.zero, i.size, i.bytes)) = some (some (.agg #[.int .i32 0, .string .empty, .string .empty]), 3, 40) := by kernel_rfl
theorem id_info : (Tryz.prog.info? 113).map (fun i => (i.zero, i.size, i.bytes)) = some (some (.agg #[.string .empty, .string .empty]), 2, 32) := by kernel_rfl
theorem strO_info : (Tryz.prog.info? 9).map (fun i => (i.zero, i.size, i.bytes)) = some (some (.string .empty), 1, 16) := by kernel_rfl

def resZero : Array Value := #[.int .i32 0, .int .i32 0, .string .empty, .int .i64 0, .int .i64 0, .int .i64 0, .int .i64 0, .int .i32 0, .int .i32 0, .int .i32 0, .int .i64 0, .int .i32 0, .int .i32 0, .int .i64 0, .slice none 0 0, .slice none 0 0, .slice none 0 0, .int .i32 0, .int .i64 0, .int .i32 0, .slice none 0 0, .slice none 0 0]
theorem res_info : (Tryz.prog.info? 33).map (fun i => (i.zero, i.size, i.bytes)) = some (some (.agg resZero), 22, 240) := by kernel_rfl
theorem one_flat {α : Type} (L : List α) (f : α → List Value) (h : ∀ x ∈ L, ∀ u ∈ f x, u.oneCell' = true) : ∀ u ∈ L.flatMap f, u.oneCell' = true := by
  intro u hu
  obtain ⟨x, hx, hux⟩ := List.mem_flatMap.1 hu
  exact h x hx u hux
theorem aclCells_one (L : List AclT) : ∀ u ∈ aclCells L, u.oneCell' = true := one_flat L _ fun x _ u hu => by
  simp only [List.mem_cons, List.not_mem_nil, or_false] at hu
  rcases hu with rfl | rfl | rfl <;> rfl
theorem idCells_one (L : List (ByteArray × ByteArray)) : ∀ u ∈ idCells L, u.oneCell' = true := one_flat L _ fun x _ u hu => by
  simp only [List.mem_cons, List.not_mem_nil, or_false] at hu
  rcases hu with rfl | rfl <;> rfl
theorem strCells_one (L : List ByteArray) : ∀ u ∈ strCells L, u.oneCell' = true := one_flat L _ fun x _ u hu => by
  simp only [List.mem_cons, List.not_mem_nil, or_false] at hu
  subst hu; rfl
theorem resCells_one {w : World} {lo : Option Nat} {Q : List (ResC × List Value)} (h : ∀ q ∈ Q, At w lo q.1 q.2) : ∀ u ∈ Q.flatMap Prod.snd, u.oneCell' = true := one_flat Q _ fun x hx u hu => by
  have := (h x hx).one
  rw [Array.all_eq_true_iff_forall_mem] at this
  exact this u (by simpa using hu)
theorem SlAt.reach' {w : World} {lo : Option Nat} {e : TypeId} {size bytes len : Nat} {s : Sl} {xs : List Value} (h : SlAt w lo e size bytes s len xs) : s.n * bytes ≤ 140737488355328 := by
  have := h.reach
  unfold reachBytes at this
  omega

section
variable {w w' : World} {b b' g : Nat} {e : TypeId} {size bytes len n : Nat} {s : Sl} {v : Value} {xs : List Value}
theorem own_lo (h : w.ownsRow b e size v n xs) (hb : b' ≤ b) : w.ownsRow b' e size v n xs := ⟨h.1, h.2.imp id fun ⟨g, cap, cur, h1, h2, h3⟩ => ⟨g, cap, cur, h1, Nat.le_trans hb h2, h3⟩⟩
theorem own_grown (h : w.ownsRow b e size v n xs) (hg : w.grownBy w' (some g)) (hlt : g < b) : w'.ownsRow b e size v n xs := by
  refine h.kept hg ?_
  cases hv : v.ownBlock with
  | none => exact .inl rfl
  | some k =>
    right
    intro he
    injection he with he
    have := (h.lt k hv).1
    omega
theorem SlAt.lo (h : SlAt w (some b) e size bytes s len xs) (hb : b' ≤ b) : SlAt w (some b') e size bytes s len xs :=
  ⟨h.nil, h.le, h.cap, h.reach, h.len, h.reads, fun c hc => by injection hc with hc; subst hc; exact own_lo (h.own b rfl) hb⟩
theorem SlAt.grown (h : SlAt w (some b) e size bytes s len xs) (hg : w.grownBy w' (some g)) (hlt : g < b) : SlAt w' (some b) e size bytes s len xs := by
  have ho := own_grown (h.own b rfl) hg hlt
  exact ⟨h.nil, h.le, h.cap, h.reach, h.len, Reads.of_own ho, fun c hc => by injection hc with hc; subst hc; exact ho⟩
theorem At.lo {x : ResC} {cs : List Value} {lo : Option Nat} (h : At w lo x cs) : ∀ {b b' : Nat}, lo = some b → b' ≤ b → At w (some b') x cs := by
  induction h with
  | mk f d a k i s Q ok hd ha hk hi hs _ ih =>
    intro b b' hlo hb
    subst hlo
    exact .mk f d a k i s Q ok (hd.lo hb) (ha.lo hb) (hk.lo hb) (hi.lo hb) (hs.lo hb) fun q hq => ih q hq rfl hb
theorem At.grown {x : ResC} {cs : List Value} {lo : Option Nat} (h : At w lo x cs) : ∀ {b : Nat}, lo = some b → w.grownBy w' (some g) → g < b → At w' (some b) x cs := by
  induction h with
  | mk f d a k i s Q ok hd ha hk hi hs _ ih =>
    intro b hlo hg hlt
    subst hlo
    exact .mk f d a k i s Q ok (hd.grown hg hlt) (ha.grown hg hlt) (hk.grown hg hlt) (hi.grown hg hlt) (hs.grown hg hlt) fun q hq => ih q hq rfl hg hlt
end

theorem SlAt.other {w w' : World} {b g : Nat} {e t : TypeId} {size bytes len : Nat} {s : Sl} {xs : List Value} {cs : Array Value} (h : SlAt w (some b) e size bytes s len xs) (hg : w.grownBy w' (some g)) (hB : Blk w g t cs) (hne : e ≠ t) : SlAt w' (some b) e size bytes s len xs := by
  have ho := (h.own b rfl).kept hg (.inr (own_blk_ne (h.own b rfl) hB hne))
  exact ⟨h.nil, h.le, h.cap, h.reach, h.len, Reads.of_own ho, fun c hc => by injection hc with hc; subst hc; exact ho⟩

/-- the box of what is cloned, and the result's variable behind it -/
structure KSt (w : World) (f : ResF) (d a k i s : Sl) (W : World) : Prop where
  blk : Blk W w.heap.size 33 (f.row d a k i s).toArray
  res : ∃ zr, Blk W (w.heap.size + 1) 33 zr ∧ zr.size = 22
  below : Below w.heap.size w W
  size : w.heap.size + 2 ≤ W.heap.size
section
variable {w W W' : World} {f : ResF} {d a d' a' k k' i s i' s' : Sl} {cs : Array Value} {g : Nat}
theorem KSt.start {cs old : Array Value} (hcs : cs = (f.row d a k i s).toArray) (ho : old.size = 22) : KSt w f d a k i s ((w.alloc (.cells cs 33)).alloc (.cells old 33)) :=
  ⟨by rw [hcs]; exact (Blk.new _ _ _).alloc _, ⟨old, Blk.new' (by simp), ho⟩, ((Below.refl _ _).alloc (Nat.le_refl _) _).alloc (by simp) _, by simp⟩
theorem KSt.later (h : KSt w f d a k i s W) (hb : Below W.heap.size W W') : KSt w f d a k i s W' := by
  obtain ⟨zr, h1, h2⟩ := h.res
  exact ⟨h.blk.below hb h.blk.lt, ⟨zr, h1.below hb h1.lt, h2⟩, h.below.trans (hb.mono h.below.size), Nat.le_trans h.size hb.size⟩
theorem KSt.put (h : KSt w f d a k i s W) (hB : Blk W' w.heap.size 33 cs) (hg : W.grownBy W' (some w.heap.size)) (e : cs.toList = f.row d' a' k' i' s') : KSt w f d' a' k' i' s' W' := by
  obtain ⟨zr, h1, h2⟩ := h.res
  have e' : cs = (f.row d' a' k' i' s').toArray := by rw [← e]
  exact ⟨e' ▸ hB, ⟨zr, h1.grown hg (by simp), h2⟩, h.below.grown hg (by have := h.size; omega) (fun k hk => by injection hk with hk; omega), Nat.le_trans h.size hg.size⟩
/-- a block made later is written -/
theorem KSt.far (h : KSt w f d a k i s W) (hg : W.grownBy W' (some g)) (hlt : w.heap.size + 2 ≤ g) : KSt w f d a k i s W' := by
  obtain ⟨zr, h1, h2⟩ := h.res
  exact ⟨h.blk.grown hg (by simp; omega), ⟨zr, h1.grown hg (by simp; omega), h2⟩, h.below.grown hg (by have := h.size; omega) (fun k hk => by injection hk with hk; omega), Nat.le_trans h.size hg.size⟩
theorem KSt.c14 (h : KSt w f d a k i s W) : W.cell? ⟨w.heap.size, 14, none⟩ = some (.slice d.A d.n d.c) := (h.blk.cell 14).trans rfl
theorem KSt.c15 (h : KSt w f d a k i s W) : W.cell? ⟨w.heap.size, 15, none⟩ = some (.slice a.A a.n a.c) := (h.blk.cell 15).trans rfl
theorem KSt.c16 (h : KSt w f d a k i s W) : W.cell? ⟨w.heap.size, 16, none⟩ = some (.slice k.A k.n k.c) := (h.blk.cell 16).trans rfl
theorem KSt.c20 (h : KSt w f d a k i s W) : W.cell? ⟨w.heap.size, 20, none⟩ = some (.slice i.A i.n i.c) := (h.blk.cell 20).trans rfl
theorem KSt.c21 (h : KSt w f d a k i s W) : W.cell? ⟨w.heap.size, 21, none⟩ = some (.slice s.A s.n s.c) := (h.blk.cell 21).trans rfl
theorem row_d : (f.row d a k i s).take 14 ++ [d'.v] ++ (f.row d a k i s).drop 15 = f.row d' a k i s := rfl
theorem row_a : (f.row d a k i s).take 15 ++ [a'.v] ++ (f.row d a k i s).drop 16 = f.row d a' k i s := rfl
theorem row_k : (f.row d a k i s).take 16 ++ [k'.v] ++ (f.row d a k i s).drop 17 = f.row d a k' i s := rfl
theorem row_i : (f.row d a k i s).take 20 ++ [i'.v] ++ (f.row d a k i s).drop 21 = f.row d a k i' s := rfl
theorem row_s : (f.row d a k i s).take 21 ++ [s'.v] ++ (f.row d a k i s).drop 22 = f.row d a k i s' := rfl
theorem row_one : (f.row d a k i s).toArray.all (·.oneCell') = true := by simp [ResF.row, Sl.v, Value.oneCell']
theorem row_asize : (f.row d a k i s).toArray.size = 22 := rfl
end
/-- the rows of a list of operations, one of them another one -/
theorem rows_set : ∀ (R : List (ResC × List Value)) (j : Nat) (q : ResC × List Value), (∀ r ∈ R, r.2.length = 22) → q.2.length = 22 → j < R.length →
    (R.flatMap Prod.snd).take (j * 22) ++ q.2 ++ (R.flatMap Prod.snd).drop (j * 22 + 22) = (R.set j q).flatMap Prod.snd
  | [], j, _, _, _, h => by simp at h
  | r :: R, 0, q, hR, hq, _ => by
    have hr := hR r (by simp)
    rw [List.set_cons_zero, List.flatMap_cons, List.flatMap_cons, Nat.zero_mul, List.take_zero, List.nil_append, Nat.zero_add, ← hr, List.drop_left]
  | r :: R, j + 1, q, hR, hq, hj => by
    have hr := hR r (by simp)
    have ih := rows_set R j q (fun x hx => hR x (by simp [hx])) hq (by simpa using hj)
    rw [List.set_cons_succ, List.flatMap_cons, List.flatMap_cons, show (j + 1) * 22 = r.2.length + j * 22 by omega, List.take_length_add_append, show r.2.length + j * 22 + 22 = r.2.length + (j * 22 + 22) by omega, List.drop_length_add_append, List.append_assoc, List.append_assoc, ← ih]
    simp [List.append_assoc]

def Cloned (w : World) (x : ResC) (e : Ending) (w' : World) : Prop := ∃ cs' : List Value, e = .returned (.agg cs'.toArray) ∧ At w' (some w.heap.size) x cs' ∧ Below w.heap.size w w'
/-- the rows made so far -/
structure RSt (w : World) (b g : Nat) (c n : Nat) (Q R : List (ResC × List Value)) (j : Nat) (W : World) : Prop where
  own : W.ownsRow b 33 22 (.slice (some ⟨g, 0, none⟩) n c) n (R.flatMap Prod.snd)
  len : R.length = Q.length
  fst : R.map Prod.fst = Q.map Prod.fst
  low : b ≤ g
  done : ∀ z (h : z < R.length), z < j → At W (some (g + 1)) (R[z]).1 (R[z]).2
  rest : ∀ z, j ≤ z → R[z]? = Q[z]?
  rows : ∀ r ∈ R, r.2.length = 22
theorem RSt.later {w W W' : World} {b g c n j : Nat} {Q R : List (ResC × List Value)} (h : RSt w b g c n Q R j W) (hb : Below W.heap.size W W') : RSt w b g c n Q R j W' :=
  ⟨own_below h.own hb, h.len, h.fst, h.low, fun z hz hj => (h.done z hz hj).later hb, h.rest, h.rows⟩
theorem RSt.row {w W : World} {b g c n j : Nat} {Q R : List (ResC × List Value)} (h : RSt w b g c n Q R j W) {z : Nat} (hz : z < R.length) (hn : R.length = n) : ∀ k v, (R[z]).2[k]? = some v → W.cell? ((⟨g, z * 22, none⟩ : Addr).add k) = some v := fun k v hv => by
  have hr := Reads.of_own h.own
  obtain ⟨ad, hA, _, hc⟩ := hr.2 (by omega)
  injection hA with hA
  subst hA
  have hk22 : k < 22 := by
    have := (List.getElem?_eq_some_iff.1 hv).1
    rwa [h.rows _ (List.getElem_mem hz)] at this
  have := hc (z * 22 + k) v ((subs_row R h.rows z hz k hk22).trans hv)
  rw [Go.WideShapes.add_plain] at this ⊢
  rw [Nat.zero_add] at this
  exact this
theorem RSt.grown {w W W' : World} {b g g' c n j : Nat} {Q R : List (ResC × List Value)} (h : RSt w b g c n Q R j W) (hg : W.grownBy W' (some g')) (hlt : g' < b) : RSt w b g c n Q R j W' :=
  ⟨own_grown h.own hg hlt, h.len, h.fst, h.low, fun z hz hj => (h.done z hz hj).grown rfl hg (by have := h.low; omega), h.rest, h.rows⟩
theorem RSt.blk {w W : World} {b g c n j : Nat} {Q R : List (ResC × List Value)} (h : RSt w b g c n Q R j W) (hn : R.length = n) : ∃ cur, Blk W g 33 cur ∧ n * 22 ≤ cur.size ∧ cur.toList.take (n * 22) = R.flatMap Prod.snd ∧ n ≤ c ∧ c ≤ maxLen ∧ cur.size = c * 22 := by
  rcases h.own.2 with ⟨h1, h2⟩ | ⟨g', cap, cur, h1, h2, h3, h4, h5, h6, h7⟩
  · cases h1
  · injection h1 with h1 _ h1'
    injection h1 with h1
    injection h1 with h1
    subst h1 h1'
    exact ⟨cur, h3, by rw [h6]; exact Nat.mul_le_mul_right _ h4, h7, h4, h5, h6⟩
/-- a row is stored -/
theorem RSt.set {w W W' : World} {b g c n j : Nat} {Q R : List (ResC × List Value)} (h : RSt w b g c n Q R j W) (hn : R.length = n) (hj : j < R.length) {x : ResC} {xc : List Value} (hx : At W (some (g + 1)) x xc) (hxe : x = (R[j]).1) {cur cur' : Array Value} (hcur : Blk W g 33 cur) (hB : Blk W' g 33 cur') (hl : cur'.toList = cur.toList.take (j * 22) ++ xc ++ cur.toList.drop (j * 22 + xc.length)) (hg : W.grownBy W' (some g)) :
    RSt w b g c n Q (R.set j (x, xc)) (j + 1) W' := by
  obtain ⟨cur0, h1, h2, h3, h4, h5, h6⟩ := h.blk hn
  have e : cur0 = cur := by
    unfold Blk at h1 hcur
    rw [h1] at hcur
    injection hcur with hcur
    injection hcur
  subst e
  have hxl : xc.length = 22 := hx.len
  have hrow := rows_set R j (x, xc) h.rows hxl hj
  have hfl : ∀ (R : List (ResC × List Value)), (∀ r ∈ R, r.2.length = 22) → (R.flatMap Prod.snd).length = R.length * 22 := fun R => by
    induction R with
    | nil => intro _; rfl
    | cons r R ih =>
      intro h
      rw [List.flatMap_cons, List.length_append, ih (fun x hx => h x (by simp [hx])), h r (by simp), List.length_cons]
      omega
  have hR := hfl R h.rows
  have hlen' : cur'.toList.length = cur0.toList.length := by
    rw [hl, List.length_append, List.length_append, List.length_take, List.length_drop, hxl, Array.length_toList]
    omega
  refine ⟨⟨?_, .inr ⟨g, c, cur', rfl, h.low, hB, h4, h5, ?_, ?_⟩⟩, by simp [h.len], ?_, h.low, fun z hz hzj => ?_, fun z hz => ?_, fun r hr => ?_⟩
  · rw [← hrow, ← h3]
    dsimp only
    simp only [List.length_append, List.length_take, List.length_drop, Array.length_toList, hxl]
    omega
  · rw [← h6]
    simpa using hlen'
  · rw [← hrow, hl, ← h3]
    dsimp only
    apply List.ext_getElem?
    intro k
    simp only [List.getElem?_append, List.length_append, List.length_take, Array.length_toList, List.getElem?_take, List.getElem?_drop, hxl]
    have e1 : min (j * 22) cur0.size = j * 22 := by omega
    have e2 : min (j * 22) (min (n * 22) cur0.size) = j * 22 := by omega
    rw [e1, e2]
    by_cases k1 : k < j * 22
    · simp only [if_pos k1, if_pos (show k < j * 22 + 22 by omega)]
      try (split <;> first | rfl | omega)
    · by_cases k2 : k < j * 22 + 22
      · simp only [if_neg k1, if_pos k2, if_pos (show k < n * 22 by omega)]
      · simp only [if_neg k1, if_neg k2]
        by_cases k3 : k < n * 22
        · rw [if_pos k3, if_pos (by omega)]
        · rw [if_neg k3, if_neg (by omega)]
  · rw [List.map_set, h.fst, hxe]
    apply List.ext_getElem?
    intro k
    rw [List.getElem?_set]
    split
    · rename_i e
      subst e
      rw [← h.fst]
      simp [hj]
    · rfl
  · rw [List.length_set] at hz
    rw [List.getElem_set]
    split
    · rename_i e
      subst e
      exact hx.grown rfl hg (by omega)
    · exact (h.done z hz (by omega)).grown rfl hg (by omega)
  · rw [List.getElem?_set_ne (by omega)]
    exact h.rest z (by omega)
  · rcases List.mem_or_eq_of_mem_set hr with hr | rfl
    · exact h.rows r hr
    · exact hxl

theorem SlAt.window {w W : World} {b : Nat} {e : TypeId} {size bytes len : Nat} {s : Sl} {xs : List Value} (h : SlAt w (some b) e size bytes s len xs) (hk : ∀ k, b ≤ k → k < w.heap.size → W.heap[k]? = w.heap[k]?) : SlAt W (some b) e size bytes s len xs := by
  have ho : W.ownsRow b e size s.v s.n xs := by
    obtain ⟨h1, h2⟩ := h.own b rfl
    refine ⟨h1, ?_⟩
    rcases h2 with h2 | ⟨g, cap, cur, e1, e2, e3, e4⟩
    · exact .inl h2
    · refine .inr ⟨g, cap, cur, e1, e2, ?_, e4⟩
      have hlt : g < w.heap.size := by
        rcases Nat.lt_or_ge g w.heap.size with hlt | hge
        · exact hlt
        · rw [Array.getElem?_eq_none hge] at e3; cases e3
      exact (hk g e2 hlt).trans e3
  exact ⟨h.nil, h.le, h.cap, h.reach, h.len, Reads.of_own ho, fun c hc => by injection hc with hc; subst hc; exact ho⟩
theorem At.window {w W : World} {x : ResC} {cs : List Value} {lo : Option Nat} (h : At w lo x cs) : ∀ {b : Nat}, lo = some b → (∀ k, b ≤ k → k < w.heap.size → W.heap[k]? = w.heap[k]?) → At W (some b) x cs := by
  induction h with
  | mk f d a k i s Q ok hd ha hk hi hs _ ih =>
    intro b hlo hK
    subst hlo
    exact .mk f d a k i s Q ok (hd.window hK) (ha.window hK) (hk.window hK) (hi.window hK) (hs.window hK) fun q hq => ih q hq rfl hK
/-- an operation whose lists lie in the blocks from b up to e, which are as they were -/
def Win (W : World) (b e : Nat) (x : ResC) (cs : List Value) : Prop := ∃ w : World, At w (some b) x cs ∧ w.heap.size = e ∧ e ≤ W.heap.size ∧ ∀ k, b ≤ k → k < e → W.heap[k]? = w.heap[k]?
theorem Win.at_ {W : World} {b e : Nat} {x : ResC} {cs : List Value} (h : Win W b e x cs) : At W (some b) x cs := by
  obtain ⟨w, h1, h2, _, h4⟩ := h
  exact h1.window rfl fun k hk hl => h4 k hk (by omega)
theorem Win.new {W : World} {b : Nat} {x : ResC} {cs : List Value} (h : At W (some b) x cs) : Win W b W.heap.size x cs := ⟨W, h, rfl, Nat.le_refl _, fun _ _ _ => rfl⟩
theorem Win.later {W W' : World} {b e : Nat} {x : ResC} {cs : List Value} (h : Win W b e x cs) (hb : Below W.heap.size W W') : Win W' b e x cs := by
  obtain ⟨w, h1, h2, h3, h4⟩ := h
  exact ⟨w, h1, h2, Nat.le_trans h3 hb.size, fun k hk hl => (hb.block k (by omega)).trans (h4 k hk hl)⟩
theorem Win.grown {W W' : World} {b e : Nat} {row : Option Nat} {x : ResC} {cs : List Value} (h : Win W b e x cs) (hg : W.grownBy W' row) (hne : ∀ g, row = some g → g < b ∨ e ≤ g) : Win W' b e x cs := by
  obtain ⟨w, h1, h2, h3, h4⟩ := h
  refine ⟨w, h1, h2, Nat.le_trans h3 hg.size, fun k hk hl => (hg.block k (by omega) (fun e' => ?_)).trans (h4 k hk hl)⟩
  rcases hne k e'.symm with h | h <;> omega
/-- a list of operations in new memory, each by itself -/
structure FlatSt (base : Nat) (v : Value) (R : List (ResC × List Value)) (W : World) : Prop where
  own : W.ownsRow base 33 22 v R.length (R.flatMap Prod.snd)
  bs : base ≤ W.heap.size
  win : ∀ r ∈ R, ∃ b e, base ≤ b ∧ Win W b e r.1 r.2 ∧ ∀ g, v.ownBlock = some g → g < b ∨ e ≤ g
theorem FlatSt.later {base : Nat} {v : Value} {R : List (ResC × List Value)} {W W' : World} (h : FlatSt base v R W) (hb : Below W.heap.size W W') : FlatSt base v R W' :=
  ⟨own_below h.own hb, Nat.le_trans h.bs hb.size, fun r hr => by
    obtain ⟨b, e, h1, h2, h3⟩ := h.win r hr
    exact ⟨b, e, h1, h2.later hb, h3⟩⟩
theorem FlatSt.nil (W : World) : FlatSt W.heap.size (.slice none 0 0) [] W := ⟨World.ownsRow_nil _ _ _ _, Nat.le_refl _, fun _ hr => by cases hr⟩
theorem FlatSt.snoc {base b : Nat} {v v' : Value} {R : List (ResC × List Value)} {r : ResC × List Value} {W W' : World} (h : FlatSt base v R W) (hr : Win W b W.heap.size r.1 r.2) (hb : base ≤ b) (hv : ∀ g, v.ownBlock = some g → g < b)
    (hown : W'.ownsRow base 33 22 v' (R.length + 1) (R.flatMap Prod.snd ++ r.2)) (hg : W.grownBy W' v.ownBlock) (hat : v'.ownBlock = v.ownBlock ∨ v'.ownBlock = some W.heap.size) : FlatSt base v' (R ++ [r]) W' := by
  refine ⟨by simpa using hown, Nat.le_trans h.bs hg.size, fun q hq => ?_⟩
  rcases List.mem_append.1 hq with hq | hq
  · obtain ⟨b', e', h1, h2, h3⟩ := h.win q hq
    refine ⟨b', e', h1, h2.grown hg h3, fun g hgv => ?_⟩
    rcases hat with hat | hat
    · exact h3 g (by rw [← hat]; exact hgv)
    · rw [hat] at hgv
      injection hgv with hgv
      obtain ⟨_, _, _, h5, _⟩ := h2
      right
      omega
  · rw [List.mem_singleton] at hq
    subst hq
    refine ⟨b, W.heap.size, hb, hr.grown hg (fun g hgv => .inl (hv g hgv)), fun g hgv => ?_⟩
    rcases hat with hat | hat
    · exact .inl (hv g (by rw [← hat]; exact hgv))
    · rw [hat] at hgv
      injection hgv with hgv
      right
      omega

theorem FlatSt.lt {base : Nat} {v : Value} {R : List (ResC × List Value)} {W : World} (h : FlatSt base v R W) {g : Nat} (hg : v.ownBlock = some g) : g < W.heap.size := (h.own.lt g hg).2

/-- a list in memory of its own is good for an operation -/
theorem FlatSt.at_ {W : World} {base : Nat} {A : Option Addr} {c : Nat} {Q : List (ResC × List Value)} (h : FlatSt base (.slice A Q.length c) Q W) (hn : Q.length * 240 ≤ reachBytes) : SlAt W (some base) 33 22 240 ⟨A, Q.length, c⟩ Q.length (Q.flatMap Prod.snd) ∧ ∀ q ∈ Q, At W (some base) q.1 q.2 :=
  ⟨SlAt.of_own h.own hn, fun q hq => by
    obtain ⟨b, e, h1, h2, _⟩ := h.win q hq
    exact h2.at_.lo rfl h1⟩

end Go.Proofs.YtnbaajplelchjaaGreatDoor
