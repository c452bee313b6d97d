/- What spoiling leaves: every block keeps its type and its size, and each cell its kind. -/
import Derived.Test.YtnbaajplelchjaaGreatDoorRa1
set_option linter.unusedVariables false
set_option linter.unusedSimpArgs false
namespace Go.Proofs.YtnbaajplelchjaaGreatDoor
open Go.RowKit

/-- a number of one kind stays one, a text a text, all else is the same -/
def LikeV : Value → Value → Prop
  | .int k _, v => ∃ b, v = .int k b
  | .string _, v => ∃ s, v = .string s
  | u, v => v = u
theorem LikeV.refl : ∀ v, LikeV v v := fun v => by cases v <;> first | exact ⟨_, rfl⟩ | exact rfl
theorem LikeV.trans {u v x : Value} (h : LikeV u v) (h' : LikeV v x) : LikeV u x := by
  cases u <;> first
    | (obtain ⟨b, rfl⟩ := h; exact h')
    | (obtain rfl := h; exact h')
theorem LikeV.slice {A : Option Addr} {n c : Nat} {v : Value} (h : LikeV (.slice A n c) v) : v = .slice A n c := h
theorem LikeV.one {u v : Value} (h : LikeV u v) (h1 : u.oneCell' = true) : v.oneCell' = true := by
  cases u <;> first
    | (obtain ⟨b, rfl⟩ := h; rfl)
    | (obtain rfl := h; exact h1)
structure SplB (b : Nat) (w w' : World) : Prop where
  below : Below b w w'
  cells : ∀ (g : Nat) (t : TypeId) (cs : Array Value), Blk w g t cs → ∃ cs', Blk w' g t cs' ∧ cs'.size = cs.size ∧ ∀ (j : Nat) (v : Value), cs[j]? = some v → ∃ v', cs'[j]? = some v' ∧ LikeV v v'
section
variable {b : Nat} {w w1 w2 : World}
theorem SplB.refl (b : Nat) (w : World) : SplB b w w := ⟨Below.refl _ _, fun g t cs h => ⟨cs, h, rfl, fun j v hv => ⟨v, hv, LikeV.refl v⟩⟩⟩
theorem SplB.trans (h : SplB b w w1) (h' : SplB b w1 w2) : SplB b w w2 := ⟨h.below.trans h'.below, fun g t cs hB => by
  obtain ⟨c1, k1, k2, k3⟩ := h.cells g t cs hB
  obtain ⟨c2, m1, m2, m3⟩ := h'.cells g t c1 k1
  refine ⟨c2, m1, m2.trans k2, fun j v hv => ?_⟩
  obtain ⟨v1, e1, l1⟩ := k3 j v hv
  obtain ⟨v2, e2, l2⟩ := m3 j v1 e1
  exact ⟨v2, e2, l1.trans l2⟩⟩
/-- what is new is nothing to it -/
theorem SplB.of_below (h : Below w.heap.size w w1) (hb : b ≤ w.heap.size) : SplB b w w1 := ⟨h.mono hb, fun g t cs hB => ⟨cs, hB.below h hB.lt, rfl, fun j v hv => ⟨v, hv, LikeV.refl v⟩⟩⟩
theorem SplB.cell (h : SplB b w w1) {g : Nat} {t : TypeId} {cs : Array Value} (hB : Blk w g t cs) {j : Nat} {v : Value} (hv : cs[j]? = some v) : ∃ v', w1.cell? ⟨g, j, none⟩ = some v' ∧ LikeV v v' := by
  obtain ⟨c1, k1, _, k3⟩ := h.cells g t cs hB
  obtain ⟨v', e, l⟩ := k3 j v hv
  exact ⟨v', (k1.cell j).trans e, l⟩
theorem SplB.head (h : SplB b w w1) {g : Nat} {t : TypeId} {cs : Array Value} (hB : Blk w g t cs) {j : Nat} {A : Option Addr} {n c : Nat} (hv : cs[j]? = some (.slice A n c)) : w1.cell? ⟨g, j, none⟩ = some (.slice A n c) := by
  obtain ⟨v', e, l⟩ := h.cell hB hv
  rw [e, LikeV.slice l]
/-- a cell is written over by one of its kind -/
theorem SplB.set (h : SplB b w w1) {g : Nat} {t : TypeId} {cs : Array Value} (hB : Blk w g t cs) {j : Nat} {v : Value} (hv : cs[j]? = some v) (hg : b ≤ g) {x : Value} (hx : LikeV v x) : SplB b w (w1.setCell ⟨g, j, none⟩ x) := by
  refine h.trans ⟨Below.setCell (Below.refl _ _) hg x, fun g' t' cs' hB' => ?_⟩
  obtain ⟨c1, k1, _, k3⟩ := h.cells g t cs hB
  obtain ⟨v1, e1, l1⟩ := k3 j v hv
  by_cases he : g' = g
  · subst he
    unfold Blk at k1 hB'
    rw [k1] at hB'
    injection hB' with hB'
    injection hB' with h1 h2
    subst h1
    subst h2
    refine ⟨_, Blk.set_ (show Blk w1 g' t c1 from k1) j x, by simp, fun i u hu => ?_⟩
    rw [Array.getElem?_setIfInBounds]
    by_cases hij : j = i
    · subst hij
      have hlt : j < c1.size := (Array.getElem?_eq_some_iff.1 hu).1
      rw [if_pos rfl, if_pos hlt]
      refine ⟨x, rfl, ?_⟩
      rw [e1] at hu
      injection hu with hu
      subst hu
      cases v <;> first
        | (obtain ⟨b1, rfl⟩ := l1; obtain ⟨b2, rfl⟩ := hx; exact ⟨_, rfl⟩)
        | (obtain rfl := l1; exact hx)
    · rw [if_neg hij]
      exact ⟨u, hu, LikeV.refl u⟩
  · exact ⟨cs', hB'.far he x, rfl, fun i u hu => ⟨u, hu, LikeV.refl u⟩⟩
theorem SplB.mid (h : SplB b w w1) {g : Nat} {t : TypeId} {c1 c2 : Array Value} {k : Nat} {v x : Value} (hB1 : Blk w1 g t c1) (hB2 : Blk w2 g t c2) (hg : b ≤ g) (hw : w1.grownBy w2 (some g)) (hc : c2.toList = c1.toList.take k ++ [x] ++ c1.toList.drop (k + 1)) (hv : c1[k]? = some v) (hx : LikeV v x) : SplB b w w2 := by
  have hlt : k < c1.size := (Array.getElem?_eq_some_iff.1 hv).1
  have he : c2 = c1.setIfInBounds k x := by
    apply Array.toList_inj.1
    rw [hc, Array.toList_setIfInBounds, List.set_eq_take_append_cons_drop, if_pos (by simpa using hlt)]
    simp
  refine h.trans ⟨(Below.refl b w1).grown hw (Nat.le_trans hg (Nat.le_of_lt hB1.lt)) (fun y hy => by injection hy with hy; omega), fun g' t' cs' hB' => ?_⟩
  by_cases hgg : g' = g
  · subst hgg
    unfold Blk at hB1 hB'
    rw [hB1] at hB'
    injection hB' with hB'
    injection hB' with h1 h2
    subst h1
    subst h2
    refine ⟨c2, hB2, by rw [he]; simp, fun i u hu => ?_⟩
    rw [he, Array.getElem?_setIfInBounds]
    by_cases hij : k = i
    · subst hij
      rw [if_pos rfl, if_pos hlt]
      rw [hv] at hu
      injection hu with hu
      subst hu
      exact ⟨x, rfl, hx⟩
    · rw [if_neg hij]
      exact ⟨u, hu, LikeV.refl u⟩
  · exact ⟨cs', hB'.grown hw (fun e => hgg (by injection e)), rfl, fun i u hu => ⟨u, hu, LikeV.refl u⟩⟩
end
/-- the cells of a list of the call's own, spoilt -/
theorem spl_at {b : Nat} {w w1 : World} {e : TypeId} {size bytes len : Nat} {s : Sl} {xs : List Value} (h : SlAt w (some b) e size bytes s len xs) (hs : SplB b w w1) (hn : 0 < s.n) : ∃ g cs, s.A = some ⟨g, 0, none⟩ ∧ b ≤ g ∧ Blk w g e cs ∧ ∀ (j : Nat) (v : Value), xs[j]? = some v → cs[j]? = some v := by
  have ho := h.own b rfl
  rcases ho.2 with ⟨h1, h2⟩ | ⟨g, cap, cur, h1, h2, h3, h4⟩
  · unfold Sl.v at h1
    injection h1 with h1 h5
    omega
  · unfold Sl.v at h1
    injection h1 with h1
    refine ⟨g, cur, h1, h2, h3, fun j v hv => ?_⟩
    have hr := h.reads
    obtain ⟨a, ha, _, hc⟩ := hr.2 hn
    rw [h1] at ha
    injection ha with ha
    subst ha
    have := hc j v hv
    rw [Go.WideShapes.add_plain, Nat.zero_add, (show Blk w g e cur from h3).cell j] at this
    exact this
/-- a cell of a list, in the midst of spoiling -/
theorem spl_cell {b : Nat} {w0 w1 wr : World} {e : TypeId} {size bytes len : Nat} {s : Sl} {xs : List Value} (h01 : SplB b w0 w1) (h : SlAt w0 (some b) e size bytes s len xs) (hn : 0 < s.n) (hwr : SplB b w1 wr) {j : Nat} {v : Value} (hv : xs[j]? = some v) :
    ∃ g, s.A = some ⟨g, 0, none⟩ ∧ (∃ v', wr.cell? ⟨g, j, none⟩ = some v' ∧ LikeV v v') ∧ wr.frozen? ⟨g, j, none⟩ = false ∧ ∀ x, LikeV v x → SplB b w1 (wr.setCell ⟨g, j, none⟩ x) := by
  obtain ⟨g, c0, hA, hbg, hblk, hcs⟩ := spl_at h (SplB.refl _ _) hn
  obtain ⟨c1, hb1, hz1, h1⟩ := h01.cells g _ c0 hblk
  obtain ⟨v1, hv1, l1⟩ := h1 j v (hcs j v hv)
  obtain ⟨v2, hc2, l2⟩ := hwr.cell hb1 hv1
  obtain ⟨c2, hb2, _, _⟩ := hwr.cells g _ c1 hb1
  refine ⟨g, hA, ⟨v2, hc2, l1.trans l2⟩, hb2.frozen j, fun x hx => hwr.set hb1 hv1 hbg ?_⟩
  cases v <;> first
    | (obtain ⟨b1, rfl⟩ := l1; obtain ⟨b2, rfl⟩ := hx; exact ⟨_, rfl⟩)
    | (obtain rfl := l1; exact hx)
/-- cells alike -/
def LikeL (cs cs' : List Value) : Prop := cs'.length = cs.length ∧ ∀ (j : Nat) (v : Value), cs[j]? = some v → ∃ v', cs'[j]? = some v' ∧ LikeV v v'
/-- a row of a list of results, in the midst of spoiling: where it lies -/
theorem spl_rowP {b : Nat} {w0 wr : World} {bytes : Nat} {s : Sl} {Q : List (ResC × List Value)} (h : SlAt w0 (some b) 33 22 bytes s Q.length (Q.flatMap Prod.snd)) (hl : ∀ q ∈ Q, q.2.length = 22) (hwr : SplB b w0 wr) {k : Nat} (hk : k < Q.length) :
    ∃ g c1, s.A = some ⟨g, 0, none⟩ ∧ b ≤ g ∧ Blk wr g 33 c1 ∧ ∀ (j : Nat) (v : Value), (Q[k]).2[j]? = some v → ∃ v', c1[k * 22 + j]? = some v' ∧ LikeV v v' := by
  obtain ⟨g, c0, hA, hbg, hblk, hcs⟩ := spl_at h (SplB.refl _ _) (by have := h.len; omega)
  obtain ⟨c1, hb1, hz1, h1⟩ := hwr.cells g _ c0 hblk
  have hq := hl _ (List.getElem_mem hk)
  refine ⟨g, c1, hA, hbg, hb1, fun j v hv => ?_⟩
  have hj : j < 22 := by
    have := (List.getElem?_eq_some_iff.1 hv).1
    omega
  exact h1 _ v (hcs _ v (by rw [subs_row Q hl k hk j hj]; exact hv))
end Go.Proofs.YtnbaajplelchjaaGreatDoor
