/- Words for memory, after the guide's page of words to copy: a slice that reads as a list (nil let in), a block known whole, an append onto a row of the call's own. -/
import Derived.Test.YtnbaajplelchjaaGreatDoorRows
import Derived.Below
import Derived.Laws.OwnMore
import Derived.Deep.AppendLies
import Derived.Deep.Draws
import Derived.Laws.Rows
import Derived.Maps.AppendAt
import Derived.RegionTactic
import Derived.OwnWalk
import Derived.Handy
import Derived.Lib.Hide
import Derived.WalkSpells
import Derived.Laws.BytesArg
import Derived.Deep.Slices
import Derived.Deep.Fields
import Derived.ChangeSame
import Derived.ProofKit
import Derived.SizedLaws
import Derived.ChangeArms
import Derived.Deep.QuietTactic
import Derived.BigQuiet
import Derived.Deep.MidRow
import Derived.StillTail
set_option linter.unusedVariables false
set_option linter.unusedSimpArgs false
namespace Go.Proofs.YtnbaajplelchjaaGreatDoor
open Go.RowKit

theorem block_of_add (a : Addr) (n : Nat) : (a.add n).block = a.block := by unfold Addr.add; split <;> rfl
theorem add_of_add (a : Addr) (i j : Nat) : (a.add i).add j = a.add (i + j) := by
  unfold Addr.add
  by_cases hi : i = 0 <;> by_cases hj : j = 0 <;> simp [hi, hj, Nat.add_assoc]

def Reads (w : World) (B size : Nat) (A : Option Addr) (n : Nat) (xs : List Value) : Prop :=
  xs.length = n * size ∧ (0 < n → ∃ ad, A = some ad ∧ ad.block < B ∧ ∀ j u, xs[j]? = some u → w.cell? (ad.add j) = some u)

section
variable {w w' : World} {B B' size n : Nat} {A : Option Addr} {xs : List Value}
theorem Reads.none_ : Reads w B size A 0 [] := ⟨by simp, fun h => absurd h (by omega)⟩
theorem Reads.at_ {k : Nat} (h : Reads w B 1 A n xs) (hk : k < n) : ∃ ad u, A = some ad ∧ ad.block < B ∧ xs[k]? = some u ∧ w.cell? (ad.add k) = some u := by
  obtain ⟨ad, e, hb, hc⟩ := h.2 (by omega)
  have hl : k < xs.length := by have := h.1; omega
  exact ⟨ad, xs[k], e, hb, List.getElem?_eq_getElem hl, hc k _ (List.getElem?_eq_getElem hl)⟩
theorem Reads.keep (h : Reads w B size A n xs) (hk : ∀ p : Addr, p.block < B → w'.cell? p = w.cell? p) : Reads w' B size A n xs :=
  ⟨h.1, fun hn => by
    obtain ⟨ad, e, hb, hc⟩ := h.2 hn
    exact ⟨ad, e, hb, fun j u hu => (hk _ (by rw [block_of_add]; exact hb)).trans (hc j u hu)⟩⟩
theorem Reads.more (h : Reads w B size A n xs) (hB : B ≤ B') : Reads w B' size A n xs :=
  ⟨h.1, fun hn => by
    obtain ⟨ad, e, hb, hc⟩ := h.2 hn
    exact ⟨ad, e, by omega, hc⟩⟩
theorem Reads.below (h : Reads w B size A n xs) (hb : Below B w w') : Reads w' B size A n xs := h.keep fun _ hp => hb.cell hp
theorem Reads.drew (h : Reads w B size A n xs) : Reads w.drew B size A n xs := h
theorem Reads.drewN (h : Reads w B size A n xs) (k : Nat) : Reads (w.drewN k) B size A n xs := h
theorem Reads.alloc (h : Reads w B size A n xs) (hB : B ≤ w.heap.size) (o : Obj) : Reads (w.alloc o) B size A n xs := h.keep fun p hp => World.cell?_alloc_lt w o p (by omega)
theorem Reads.setCell (h : Reads w B size A n xs) {p : Addr} (hB : B ≤ p.block) (u : Value) : Reads (w.setCell p u) B size A n xs :=
  h.keep fun q hq => World.cell?_setCell_other w p q u (fun e => by subst e; omega)
theorem Reads.grown (h : Reads w B size A n xs) {row : Option Nat} (hg : w.grownBy w' row) (hB : B ≤ w.heap.size) (hr : ∀ g, row = some g → B ≤ g) : Reads w' B size A n xs :=
  h.keep fun p hp => World.cell?_of_block (hg.block p.block (by omega) (fun e => by have := hr _ e.symm; omega))
theorem Reads.cut (h : Reads w B size A n xs) {k cap : Nat} (hk : k ≤ n) (hc : n ≤ cap) :
    Reads w B size (if cap = k then A else A.map (·.add (k * size))) (n - k) (xs.drop (k * size)) := by
  refine ⟨by rw [List.length_drop, h.1, Nat.sub_mul], fun hn => ?_⟩
  obtain ⟨ad, rfl, hb, hcell⟩ := h.2 (by omega)
  rw [if_neg (by omega)]
  refine ⟨ad.add (k * size), rfl, by rw [block_of_add]; exact hb, fun j u hu => ?_⟩
  rw [add_of_add]
  exact hcell _ u (by rw [← hu, List.getElem?_drop])
theorem Reads.of_own {base : Nat} {e : TypeId} {c : Nat} (h : w.ownsRow base e size (.slice A n c) n xs) : Reads w w.heap.size size A n xs := by
  refine ⟨h.1, fun hn => ?_⟩
  obtain ⟨g, cap, hv, _, hlt⟩ := h.form hn
  have hA : A = some ⟨g, 0, none⟩ := by injection hv
  subst hA
  exact ⟨_, rfl, hlt, h.cells (g := g) rfl⟩
end

def Blk (w : World) (g : Nat) (t : TypeId) (cs : Array Value) : Prop := w.heap[g]? = some (.cells cs t (0, 0))

section
variable {w w' : World} {g : Nat} {t : TypeId} {cs : Array Value}
theorem Blk.lt (h : Blk w g t cs) : g < w.heap.size := by
  rcases Nat.lt_or_ge g w.heap.size with hlt | hge
  · exact hlt
  · unfold Blk at h; rw [Array.getElem?_eq_none hge] at h; cases h
theorem Blk.cell (h : Blk w g t cs) (i : Nat) : w.cell? ⟨g, i, none⟩ = cs[i]? := cell_of_row w g i cs t (0, 0) h
theorem Blk.frozen (h : Blk w g t cs) (i : Nat) : w.frozen? ⟨g, i, none⟩ = false := by
  unfold Blk at h
  simp [World.frozen?, h]
theorem Blk.new (w : World) (t : TypeId) (cs : Array Value) : Blk (w.alloc (.cells cs t)) w.heap.size t cs := heap_alloc_new w _
theorem Blk.drew (h : Blk w g t cs) : Blk w.drew g t cs := h
theorem Blk.drewN (h : Blk w g t cs) (n : Nat) : Blk (w.drewN n) g t cs := h
theorem Blk.alloc (h : Blk w g t cs) (o : Obj) : Blk (w.alloc o) g t cs := (Below.heap_alloc w o g h.lt).trans h
theorem Blk.set_ (h : Blk w g t cs) (i : Nat) (u : Value) : Blk (w.setCell ⟨g, i, none⟩ u) g t (cs.setIfInBounds i u) := by
  unfold Blk at h ⊢
  simp [World.setCell, Array.getElem?_modify, h]
theorem Blk.far (h : Blk w g t cs) {p : Addr} (hp : g ≠ p.block) (u : Value) : Blk (w.setCell p u) g t cs := (Below.heap_setCell w p u g hp).trans h
theorem Blk.below {B : Nat} (h : Blk w g t cs) (hb : Below B w w') (hg : g < B) : Blk w' g t cs := (hb.block g hg).trans h
theorem Blk.grown {row : Option Nat} (h : Blk w g t cs) (hb : w.grownBy w' row) (hg : some g ≠ row) : Blk w' g t cs := (hb.block g h.lt hg).trans h
theorem Blk.ne_ {g' : Nat} {t' : TypeId} {cs' : Array Value} (h : Blk w g t cs) (h' : Blk w g' t' cs') (hne : t ≠ t') : g ≠ g' := by
  rintro rfl
  unfold Blk at h h'
  rw [h] at h'
  injection h' with h'
  injection h' with _ ht
  exact hne ht
theorem own_blk_ne {base : Nat} {e : TypeId} {size n : Nat} {v : Value} {xs : List Value} (h : w.ownsRow base e size v n xs) (hg : Blk w g t cs) (hne : e ≠ t) : v.ownBlock ≠ some g := by
  rcases h.2 with ⟨rfl, _⟩ | ⟨g', cap, cur, rfl, _, hh, _⟩
  · simp [Value.ownBlock]
  · intro he
    have : g' = g := by simpa [Value.ownBlock] using he
    subst this
    exact Blk.ne_ (t := e) hh hg hne rfl
end

section
variable {P : Program} (w : World)

theorem run_append_of_nil (base : Nat) (t ty e : TypeId) (i : TypeInfo) (size : Nat) (ht : P.underlying t = some (.slice e)) (hi : P.info? e = some i)
    (v : Value) (n : Nat) (xs : List Value) (hown : w.ownsRow base e size v n xs) (c : Nat) : (Builtin.append_ #[t, t] ty #[v, .slice none 0 c]).run P w = .ok v w := by
  rcases hown.2 with ⟨rfl, rfl⟩ | ⟨g, cap, cur, rfl, _, _, hnc, _⟩
  · simp [Builtin.append_, run_underlying ht, sizeOf, typeInfo, hi, Builtin.lenOf, Builtin.firstCells]
  · simp [Builtin.append_, run_underlying ht, sizeOf, typeInfo, hi, Builtin.lenOf, Builtin.firstCells, hnc, storeCells]

theorem run_append_any (base : Nat) (t ty e : TypeId) (i : TypeInfo) (z : Value) (size bytes : Nat) (ht : P.underlying t = some (.slice e)) (hi : P.info? e = some i) (hz : i.zero = some z)
    (hsize : i.size = size) (hby : i.bytes = bytes) (hzs : z.cells.size = size) (hsz : 0 < size)
    (v : Value) (n : Nat) (xs : List Value) (hown : w.ownsRow base e size v n xs)
    (B : Nat) (A : Option Addr) (m c : Nat) (news : List Value) (hr : Reads w B size A m news) (h1 : ∀ u ∈ news, u.oneCell' = true)
    (h63 : n + m ≤ maxLen) (hbytes : (n + m) * bytes ≤ 140737488355328) (hbase : base ≤ w.heap.size) :
    ∃ v' w', (Builtin.append_ #[t, t] ty #[v, .slice A m c]).run P w = .ok v' w' ∧ w'.ownsRow base e size v' (n + m) (xs ++ news) ∧ w.grownBy w' v.ownBlock ∧
      (v'.ownBlock = v.ownBlock ∨ v'.ownBlock = some w.heap.size) := by
  rcases A with _ | ad
  · have hm : m = 0 := by
      rcases Nat.eq_zero_or_pos m with h0 | h0
      · exact h0
      · obtain ⟨ad, h, _⟩ := hr.2 h0
        cases h
    subst hm
    have hn : news = [] := List.eq_nil_of_length_eq_zero (by simpa using hr.1)
    subst hn
    exact ⟨v, w, run_append_of_nil w base t ty e i size ht hi v n xs hown c, by simpa using hown, World.grownBy.refl w _, .inl rfl⟩
  · have hcells : ∀ j u, news[j]? = some u → w.cell? (ad.add j) = some u := by
      intro j u hu
      rcases Nat.eq_zero_or_pos m with h0 | h0
      · subst h0
        have hn : news = [] := List.eq_nil_of_length_eq_zero (by simpa using hr.1)
        subst hn
        simp at hu
      · obtain ⟨ad', h, _, hc⟩ := hr.2 h0
        injection h with h
        subst h
        exact hc j u hu
    obtain ⟨v', w', hrun, h2, h3, _, h5⟩ := run_append_own_at (P := P) w base t ty e i z size bytes ht hi hz hsize hby hzs hsz v n xs hown ad m c news hr.1 hcells h1 h63 hbytes hbase
    exact ⟨v', w', hrun, h2, h3, h5⟩

theorem wp_append_any {o : Oper} {a : Act} {K : Act → World → Prop} {Q : Exit → Act → World → Prop} (s x : Operand) (t : TypeId)
    (ho : o.op = .call { callee := .builtin .append, args := #[s, x], argTypes := #[t, t] })
    (base : Nat) (e : TypeId) (i : TypeInfo) (z : Value) (size bytes : Nat) (ht : P.underlying t = some (.slice e)) (hi : P.info? e = some i) (hz : i.zero = some z)
    (hsize : i.size = size) (hby : i.bytes = bytes) (hzs : z.cells.size = size) (hsz : 0 < size)
    (v : Value) (n : Nat) (xs : List Value) (hs : a.eval s = v) (hown : w.ownsRow base e size v n xs)
    (B : Nat) (A : Option Addr) (m c : Nat) (news : List Value) (hx : a.eval x = .slice A m c) (hr : Reads w B size A m news) (h1 : ∀ u ∈ news, u.oneCell' = true)
    (h63 : n + m ≤ maxLen) (hbytes : (n + m) * bytes ≤ 140737488355328) (hbase : base ≤ w.heap.size)
    (h : ∀ v' w', w'.ownsRow base e size v' (n + m) (xs ++ news) → w.grownBy w' v.ownBlock → (v'.ownBlock = v.ownBlock ∨ v'.ownBlock = some w.heap.size) → K (a.put o.dst v') w') : o.wp P a w K Q := by
  obtain ⟨v', w', hrun, h2, h3, h4⟩ := run_append_any (P := P) w base t o.type e i z size bytes ht hi hz hsize hby hzs hsz v n xs hown B A m c news hr h1 h63 hbytes hbase
  unfold Oper.wp execOp
  simp only [ho, resolve, invoke, builtin, Sem.run_bind, Sem.run_pure, Result.andThen_ok, List.map_toArray, List.map_cons, List.map_nil, hs, hx, hrun]
  exact h v' w' h2 h3 h4

theorem wpList_append_any {ops : Array Oper} {rest : List Oper} {o : Oper} {a : Act} {Q : Exit → Act → World → Prop} (hgd : o.guard = none) (s x : Operand) (t : TypeId)
    (ho : o.op = .call { callee := .builtin .append, args := #[s, x], argTypes := #[t, t] })
    (base : Nat) (e : TypeId) (i : TypeInfo) (z : Value) (size bytes : Nat) (ht : P.underlying t = some (.slice e)) (hi : P.info? e = some i) (hz : i.zero = some z)
    (hsize : i.size = size) (hby : i.bytes = bytes) (hzs : z.cells.size = size) (hsz : 0 < size)
    (v : Value) (n : Nat) (xs : List Value) (hs : a.eval s = v) (hown : w.ownsRow base e size v n xs)
    (B : Nat) (A : Option Addr) (m c : Nat) (news : List Value) (hx : a.eval x = .slice A m c) (hr : Reads w B size A m news) (h1 : ∀ u ∈ news, u.oneCell' = true)
    (h63 : n + m ≤ maxLen) (hbytes : (n + m) * bytes ≤ 140737488355328) (hbase : base ≤ w.heap.size)
    (h : ∀ v' w', w'.ownsRow base e size v' (n + m) (xs ++ news) → w.grownBy w' v.ownBlock → (v'.ownBlock = v.ownBlock ∨ v'.ownBlock = some w.heap.size) → wpList P ops Q rest (a.put o.dst v') w') : wpList P ops Q (o :: rest) a w :=
  wpList_plain hgd fun _ hK => wp_append_any w s x t ho base e i z size bytes ht hi hz hsize hby hzs hsz v n xs hs hown B A m c news hx hr h1 h63 hbytes hbase fun v' w' h2 h3 h4 => hK _ _ (h v' w' h2 h3 h4)

theorem step_append_any {ops : Array Oper} {o : Oper} {a : Act} {K : Act → World → Prop} {Q : Exit → Act → World → Prop} {E : Prop} (hgd : o.guard = none) (s x : Operand) (t : TypeId)
    (ho : o.op = .call { callee := .builtin .append, args := #[s, x], argTypes := #[t, t] })
    (base : Nat) (e : TypeId) (i : TypeInfo) (z : Value) (size bytes : Nat) (ht : P.underlying t = some (.slice e)) (hi : P.info? e = some i) (hz : i.zero = some z)
    (hsize : i.size = size) (hby : i.bytes = bytes) (hzs : z.cells.size = size) (hsz : 0 < size)
    (v : Value) (n : Nat) (xs : List Value) (hs : a.eval s = v) (hown : w.ownsRow base e size v n xs)
    (B : Nat) (A : Option Addr) (m c : Nat) (news : List Value) (hx : a.eval x = .slice A m c) (hr : Reads w B size A m news) (h1 : ∀ u ∈ news, u.oneCell' = true)
    (h63 : n + m ≤ maxLen) (hbytes : (n + m) * bytes ≤ 140737488355328) (hbase : base ≤ w.heap.size)
    (h : ∀ v' w', w'.ownsRow base e size v' (n + m) (xs ++ news) → w.grownBy w' v.ownBlock → (v'.ownBlock = v.ownBlock ∨ v'.ownBlock = some w.heap.size) → K (a.put o.dst v') w') :
    if Region.wanted o (yielded ops a.tmps) = true then Oper.wp P o a w K Q else E := by
  have hw : Region.wanted o (yielded ops a.tmps) = true := by simp [Region.wanted, hgd]
  rw [if_pos hw]
  exact wp_append_any w s x t ho base e i z size bytes ht hi hz hsize hby hzs hsz v n xs hs hown B A m c news hx hr h1 h63 hbytes hbase h
end

theorem Blk.new' {w : World} {g : Nat} {t : TypeId} {cs : Array Value} (h : g = w.heap.size) : Blk (w.alloc (.cells cs t)) g t cs := by subst h; exact Blk.new w t cs
theorem owns_empty {w : World} {g base size : Nat} {e : TypeId} (h : Blk w g e #[]) (hb : base ≤ g) : w.ownsRow base e size (.slice (some ⟨g, 0, none⟩) 0 0) 0 [] :=
  ⟨by simp, .inr ⟨g, 0, #[], rfl, hb, h, Nat.le_refl _, by decide, by simp, by simp⟩⟩
theorem only_setCell' {w : World} {g : Nat} {p : Addr} (hp : p.block = g ∨ w.heap.size ≤ p.block) (u : Value) : w.grownBy (w.setCell p u) (some g) :=
  ⟨rfl, rfl, rfl, by simp [World.setCell], fun i hi hne => Below.heap_setCell w p u i (by
    rintro rfl
    rcases hp with hp | hp
    · exact hne (by rw [hp])
    · omega)⟩
theorem only_setRow' (w : World) (g : Nat) (cs : Array Value) : w.grownBy (w.setRow g cs) (some g) :=
  ⟨rfl, rfl, rfl, by simp [World.setRow], fun i _ hne => setRow_other w g i cs (fun e => hne (by rw [e]))⟩
theorem cells_setRow {w : World} {g : Nat} {t : TypeId} {old cs : Array Value} (h : Blk w g t old) : Blk (w.setRow g cs) g t cs := setRow_heap w g old cs t _ h
theorem far_setRow {w : World} {g g' : Nat} {t : TypeId} {cs ns : Array Value} (h : Blk w g t cs) (hne : g ≠ g') : Blk (w.setRow g' ns) g t cs := by
  unfold Blk at h ⊢
  rw [setRow_other w g' g ns hne]
  exact h
theorem below_setRow' {B g : Nat} {w0 w : World} (hb : Below B w0 w) (hg : B ≤ g) (cs : Array Value) : Below B w0 (w.setRow g cs) :=
  hb.trans ⟨rfl, rfl, rfl, by simp [World.setRow], fun k hk => setRow_other w g k cs (by omega)⟩
/-- an owned row of one element type is kept while a block of another element type is written -/
theorem own_set {w : World} {base : Nat} {e t : TypeId} {size n g : Nat} {v : Value} {xs : List Value} {cs : Array Value} (h : w.ownsRow base e size v n xs) (hg : Blk w g t cs) (hne : e ≠ t) (i : Nat) (u : Value) : (w.setCell ⟨g, i, none⟩ u).ownsRow base e size v n xs :=
  h.kept (only_setCell' (.inl rfl) u) (.inr (own_blk_ne h hg hne))
theorem own_setRow {w : World} {base : Nat} {e t : TypeId} {size n g : Nat} {v : Value} {xs : List Value} {cs : Array Value} (h : w.ownsRow base e size v n xs) (hg : Blk w g t cs) (hne : e ≠ t) (ns : Array Value) : (w.setRow g ns).ownsRow base e size v n xs :=
  h.kept (only_setRow' w g ns) (.inr (own_blk_ne h hg hne))
/-- an owned row is kept while a block that was laid later is written -/
theorem own_new {w w' : World} {base : Nat} {e : TypeId} {size n g : Nat} {v : Value} {xs : List Value} {m c : Nat} (h : w.ownsRow base e size v n xs) (hg : w.grownBy w' (Value.slice (some ⟨g, 0, none⟩) m c).ownBlock) (hne : v.ownBlock ≠ some g) : w'.ownsRow base e size v n xs :=
  h.kept hg (.inr hne)
theorem own_lt {w : World} {base : Nat} {e : TypeId} {size n : Nat} {v : Value} {xs : List Value} (h : w.ownsRow base e size v n xs) {g : Nat} (hg : w.heap.size ≤ g) : v.ownBlock ≠ some g := fun e => by
  have := (h.lt _ e).2
  omega
theorem own_nil {w : World} {base : Nat} {e : TypeId} {size n c : Nat} {A : Option Addr} {xs : List Value} (h : w.ownsRow base e size (.slice A n c) n xs) : A = none → n = 0 ∧ c = 0 := by
  rintro rfl
  rcases h.2 with ⟨h1, h2⟩ | ⟨g, cap, cur, h1, _⟩
  · injection h1 with _ _ h3
    exact ⟨h2, h3⟩
  · injection h1 with h1 _ _
    cases h1
theorem below_eq {w w' : World} (h : w = w') : Below w.heap.size w w' := by subst h; exact Below.refl _ _
theorem slice_form {w : World} {base size n : Nat} {e : TypeId} {v : Value} {xs : List Value} (h : w.ownsRow base e size v n xs) : ∃ A' c', v = .slice A' n c' := by
  rcases h.2 with ⟨rfl, h0⟩ | ⟨g, cap, cur, rfl, _⟩
  · exact ⟨none, 0, by rw [h0]⟩
  · exact ⟨_, _, rfl⟩
theorem below_drewN' {B : Nat} {a w : World} (h : Below B a w) (n : Nat) : Below B a (w.drewN n) := ⟨h.os, h.tape, h.output, h.size, h.block⟩
/-- behind a contract that leaves all old blocks alone -/
theorem bcell {W w1 : World} (hb : Below W.heap.size W w1) : (∀ b o, b < W.heap.size → w1.cell? ⟨b, o, none⟩ = W.cell? ⟨b, o, none⟩) ∧ (∀ b o, b < W.heap.size → w1.frozen? ⟨b, o, none⟩ = W.frozen? ⟨b, o, none⟩) :=
  ⟨fun b o h => hb.cell (p := ⟨b, o, none⟩) h, fun b o h => hb.frozen (p := ⟨b, o, none⟩) h⟩
/-- a row that the call owns lies above the old heap: what is below it is kept -/
theorem grown_below {B : Nat} {w0 w w' : World} {e : TypeId} {size : Nat} {v : Value} {n : Nat} {xs : List Value} (hb : Below B w0 w) (hown : w.ownsRow B e size v n xs) (hg : w.grownBy w' v.ownBlock) (hB : B ≤ w.heap.size) : Below B w0 w' :=
  hb.grown hg hB fun k hk => (hown.lt k hk).1
end Go.Proofs.YtnbaajplelchjaaGreatDoor
/- A slice of bytes as a list of bytes; as a string. -/
namespace Go.Proofs.YtnbaajplelchjaaGreatDoor
open Go.RowKit

/-- the cells of bytes -/
def bcells (l : List UInt8) : List Value := l.map fun b => .int .u8 (b.toNat : Int)
theorem bcells_length (l : List UInt8) : (bcells l).length = l.length := by simp [bcells]
theorem bcells_get (l : List UInt8) (i : Nat) : (bcells l)[i]? = l[i]?.map fun b => .int .u8 (b.toNat : Int) := by simp [bcells]
theorem bcells_one (l : List UInt8) : ∀ u ∈ bcells l, u.oneCell' = true := by
  intro u hu
  obtain ⟨b, _, rfl⟩ := List.mem_map.1 hu
  rfl
theorem bcells_append (l m : List UInt8) : bcells (l ++ m) = bcells l ++ bcells m := by simp [bcells]
theorem bcells_inj {l m : List UInt8} (h : bcells l = bcells m) : l = m := by
  induction l generalizing m with
  | nil => cases m with
    | nil => rfl
    | cons b m => simp [bcells] at h
  | cons a l ih => cases m with
    | nil => simp [bcells] at h
    | cons b m =>
      simp only [bcells, List.map_cons, List.cons.injEq, Value.int.injEq, true_and] at h
      obtain ⟨h1, h2⟩ := h
      have : a = b := UInt8.toNat_inj.1 (by omega)
      rw [this, ih h2]

theorem Reads.plain {w : World} {B size n : Nat} {A : Option Addr} {xs : List Value} (h : Reads w B size A n xs) (hn : 0 < n) (hs : 0 < size) :
    ∃ b off, A = some ⟨b, off, none⟩ ∧ b < B ∧ ∀ j u, xs[j]? = some u → w.cell? ⟨b, off + j, none⟩ = some u := by
  obtain ⟨⟨b, off, spot⟩, rfl, hb, hc⟩ := h.2 hn
  have hl : 0 < xs.length := by rw [h.1]; exact Nat.mul_pos hn hs
  have h0 := hc 0 _ (List.getElem?_eq_getElem hl)
  have hspot : spot = none := by simpa [Addr.add] using World.cell?_spot h0
  subst hspot
  refine ⟨b, off, rfl, hb, fun j u hu => ?_⟩
  have := hc j u hu
  rwa [Go.WideShapes.add_plain] at this

theorem ofNat_toNat (b : UInt8) : UInt8.ofNat ((b.toNat : Int).toNat) = b := by simp

theorem run_string_of_bytes {P : Program} {w : World} {src e : TypeId} (hs : P.underlying src = some (.slice e)) (he : P.underlying e = some (.int .u8)) {B n c : Nat} {A : Option Addr} {l : List UInt8} (hr : Reads w B 1 A n (bcells l)) :
    ∀ dst, P.underlying dst = some .string → (convert src dst (.slice A n c)).run P w = .ok (.string ⟨l.toArray⟩) w := by
  have hl : l.length = n := by have := hr.1; rw [bcells_length] at this; omega
  intro dst hd
  rcases A with _ | ad
  · have hn : n = 0 := by
      rcases Nat.eq_zero_or_pos n with h | h
      · exact h
      · obtain ⟨_, h', _⟩ := hr.2 h; cases h'
    subst hn
    have : l = [] := List.eq_nil_of_length_eq_zero hl
    subst this
    exact run_convert_bytes_nil w src e hs he 0 c dst hd
  · rw [run_convert_bytes_string w src dst e _ n c hs he hd]
    have hlc : (loadCells ad n).run P w = .ok ((l.map fun b : UInt8 => (b.toNat : Int)).map (Value.int .u8)).toArray w := by
      have h := run_loadCells_list (P := P) w ad (bcells l) (fun j v hv => by
        have hn : 0 < n := by
          rcases Nat.eq_zero_or_pos n with h | h
          · subst h
            have : l = [] := List.eq_nil_of_length_eq_zero hl
            subst this
            simp [bcells] at hv
          · exact h
        obtain ⟨ad', h', _, hc⟩ := hr.2 hn
        injection h' with h'
        subst h'
        exact hc j v hv)
      rw [bcells_length, hl] at h
      rw [h]
      simp [bcells]
    rw [run_bytesToString w ad n c (l.map fun b : UInt8 => (b.toNat : Int)) hlc, foldl_push_bytes]
    congr 2
    show (⟨#[] ++ _⟩ : ByteArray) = _
    congr 1
    simp [List.map_map, Function.comp_def]
end Go.Proofs.YtnbaajplelchjaaGreatDoor
/- Openers: a slice of structs of one-cell fields, as cells. -/
namespace Go.Proofs.YtnbaajplelchjaaGreatDoor
open Go.ChangeShapes Go.WideShapes Go.Deep

section
variable {H : Type} {enc : TypeId × Value → H} {P : Program} {w : World} {base : Nat} {spare : Nat → Bool} {held : Bool}
theorem open_slice_fields {t e : TypeId} {fs : Array Field} {fuel : Nat} {cs : List Value} {x : DataW H × List MemPlace} (ht : P.underlying t = some (.slice e)) (he : P.underlying e = some (.struct fs))
    (hone : oneCellFields P fs = true) (hC : P.cellsOf e = fs.size) (h : DataW.trod enc P w base spare held fuel t cs = some x) :
    (cs = [.slice none 0 0] ∧ x = (.nil, [])) ∨
    ∃ (a : Addr) (len cap m : Nat) (D : Nat → DataW H) (Pl : Nat → List MemPlace), cs = [.slice (some a) len cap] ∧ base ≤ a.block ∧ len ≤ cap ∧ cap ≤ maxLen ∧ m = (if spare a.block then cap else len) ∧
      x = (.slice ((List.range len).map D) ((List.range (m - len)).map fun j => D (len + j)), MemPlace.row a (m * fs.size) ++ (List.range m).flatMap Pl) ∧
      ∀ i, i < m → ∃ (ys : List (DataW H × List MemPlace)) (n : Nat), D i = .agg (ys.map (·.1)) ∧ Pl i = ys.flatMap (·.2) ∧ ys.length = fs.size ∧
        ∀ (j : Nat) (f : Field), fs[j]? = some f → ∃ (v : Value) (y : DataW H × List MemPlace), w.cell? (a.add (i * fs.size + j)) = some v ∧ ys[j]? = some y ∧ DataW.trod enc P w base spare held n f.type [v] = some y := by
  rcases open_slice ht h with h0 | ⟨a, len, cap, m, n, D, Pl, hcs, hb, hl, hm, hmm, hx, hi⟩
  · exact .inl h0
  · refine .inr ⟨a, len, cap, m, D, Pl, hcs, hb, hl, hm, hmm, by rw [hC] at hx; exact hx, fun i him => ?_⟩
    obtain ⟨cs', hc, ht'⟩ := hi i him
    rw [hC] at hc
    obtain ⟨ys, n', hn', hy, hlen, hyl, hf⟩ := DataW.trod_struct he ht'
    obtain ⟨_, hcl, hat⟩ := World.cells?_some hc
    simp only [Prod.mk.injEq] at hy
    refine ⟨ys, n', hy.1, hy.2, hyl, fun j f hj => ?_⟩
    obtain ⟨ho, hk⟩ := hone_of hone j f hj
    have hjl : j < fs.size := (Array.getElem?_eq_some_iff.1 hj).1
    have hcell := hat j hjl
    have hv : cs'[j]? = some (cs'[j]'(by omega)) := List.getElem?_eq_getElem (by omega)
    have h1 := hf j f hj
    rw [ho, hk] at h1
    have hone' : (cs'.drop j).take 1 = [cs'[j]'(by omega)] := by
      rw [List.drop_eq_getElem_cons (by omega)]
      rfl
    rw [hone'] at h1
    have hys : ys[j]? = some (ys[j]'(by omega)) := List.getElem?_eq_getElem (by omega)
    refine ⟨_, _, ?_, hys, h1.trans hys⟩
    rw [← Go.Deep.add_add, hcell, hv]
end
/-- a cell that reads lies in a block that is there -/
theorem cell_lt {w : World} {a : Addr} {v : Value} (h : w.cell? a = some v) : a.block < w.heap.size := by
  unfold World.cell? at h
  split at h
  · rename_i he
    exact (Array.getElem?_eq_some_iff.1 he).1
  · cases h
end Go.Proofs.YtnbaajplelchjaaGreatDoor
/- A reading with its reach: what an argument's cells are, kind by kind. -/
namespace Go.Proofs.YtnbaajplelchjaaGreatDoor
open Go.ChangeShapes Go.WideShapes Go.Deep Go.RowKit

section
variable {H : Type} {enc : TypeId × Value → H} {P : Program} {w : World}

/-- cells that read as data of a type, no piece of them greater than what is reached -/
def Rd (enc : TypeId × Value → H) (P : Program) (w : World) (t : TypeId) (cs : List Value) : Prop :=
  ∃ fuel x, DataW.trod enc P w 0 (fun _ => true) true fuel t cs = some x ∧ ∀ n ∈ x.1.weights P t, n ≤ reachBytes

theorem rd_of {v : Value} {d : DataW H} {p : List MemPlace} {t : TypeId} {ts : List TypeId} {ds : List (DataW H)} (j : Nat) (h : DataW.Trod enc P w 0 (fun _ => true) true t v d p)
    (hsz : (DataW.weightsEach P ts ds).all (· ≤ reachBytes) = true) (ht : ts[j]? = some t) (hd : ds[j]? = some d) : Rd enc P w t v.cells.toList := by
  obtain ⟨fuel, hf⟩ := h
  exact ⟨fuel, _, hf, fun n hn => by simpa using List.all_eq_true.1 hsz _ (DataW.weights_mem_each ht hd n hn)⟩

variable {t : TypeId} {cs : List Value}

theorem Rd.int {k : IntKind} (h : Rd enc P w t cs) (ht : P.underlying t = some (.int k)) : ∃ z, cs = [.int k z] ∧ (Lit.int k z).wf = true := by
  obtain ⟨fuel, x, hx, _⟩ := h
  obtain ⟨z, h1, _, h2⟩ := DataW.trod_int ht hx
  exact ⟨z, h1, h2⟩

theorem Rd.bool (h : Rd enc P w t cs) (ht : P.underlying t = some .bool) : ∃ b, cs = [.bool b] := by
  obtain ⟨fuel, x, hx, _⟩ := h
  obtain ⟨z, h1, _⟩ := DataW.trod_bool ht hx
  exact ⟨z, h1⟩

theorem Rd.string (h : Rd enc P w t cs) (ht : P.underlying t = some .string) : ∃ s : ByteArray, cs = [.string s] ∧ s.size ≤ reachBytes := by
  obtain ⟨fuel, x, hx, hb⟩ := h
  obtain ⟨s, h1, rfl, _⟩ := DataW.trod_string ht hx
  exact ⟨s, h1, by
    have := hb s.data.toList.length (by simp [DataW.weights])
    simpa using this⟩

theorem Rd.struct {fs : Array Field} (h : Rd enc P w t cs) (ht : P.underlying t = some (.struct fs)) : cs.length = P.cellsOf t ∧ ∀ (j : Nat) (f : Field), fs[j]? = some f → Rd enc P w f.type ((cs.drop f.offset).take (P.cellsOf f.type)) := by
  obtain ⟨fuel, x, hx, hb⟩ := h
  obtain ⟨ys, n, _, rfl, hl, hyl, hf⟩ := DataW.trod_struct ht hx
  refine ⟨hl, fun j f hj => ?_⟩
  have hjl : j < fs.size := (Array.getElem?_eq_some_iff.1 hj).1
  have hy : ys[j]? = some (ys[j]'(by omega)) := List.getElem?_eq_getElem (by omega)
  refine ⟨n, ys[j]'(by omega), (hf j f hj).trans hy, fun m hm => hb m ?_⟩
  simp only [DataW.weights, ht]
  refine DataW.weights_mem_each (j := j) (t := f.type) (d := (ys[j]'(by omega)).1) ?_ ?_ m hm
  · simp [hj]
  · simp [hy]

theorem weightsAll_mem {e : TypeId} {l : List (DataW H)} {d : DataW H} (hd : d ∈ l) {n : Nat} (hn : n ∈ d.weights P e) : n ∈ DataW.weightsAll P e l := by
  induction l with
  | nil => cases hd
  | cons a l ih =>
    simp only [DataW.weightsAll, List.mem_append]
    rcases List.mem_cons.1 hd with rfl | hd
    · exact .inl hn
    · exact .inr (ih hd)

theorem Rd.slice {e : TypeId} (h : Rd enc P w t cs) (ht : P.underlying t = some (.slice e)) : ∃ (A : Option Addr) (n c : Nat), cs = [.slice A n c] ∧ (A = none → n = 0 ∧ c = 0) ∧ n ≤ c ∧ c ≤ maxLen ∧ c * P.bytesOf e ≤ reachBytes ∧
    (0 < n → ∃ ad, A = some ad) ∧ ∀ i ad, i < n → A = some ad → ∃ cs', w.cells? 0 (ad.add (i * P.cellsOf e)) (P.cellsOf e) = some cs' ∧ Rd enc P w e cs' := by
  obtain ⟨fuel, x, hx, hb⟩ := h
  rcases open_slice ht hx with ⟨rfl, rfl⟩ | ⟨a, len, cap, m, n, D, Pl, rfl, _, hl, hm, hmm, rfl, hi⟩
  · exact ⟨none, 0, 0, rfl, fun _ => ⟨rfl, rfl⟩, Nat.le_refl _, Nat.zero_le _, by simp, fun h => absurd h (by omega), fun i ad hi => absurd hi (by omega)⟩
  · refine ⟨some a, len, cap, rfl, fun h => (by cases h), hl, hm, ?_, fun _ => ⟨a, rfl⟩, fun i ad hlt he => ?_⟩
    · simp only [if_true] at hmm
      subst hmm
      have := hb ((len + (m - len)) * P.bytesOf e) (by simp [DataW.weights, ht])
      rwa [show len + (m - len) = m by omega] at this
    · simp only [if_true] at hmm
      injection he with he
      subst he
      obtain ⟨cs', h1, h2⟩ := hi i (by omega)
      refine ⟨cs', h1, n, _, h2, fun k hk => hb k ?_⟩
      simp only [DataW.weights, ht, List.mem_cons, List.mem_append]
      exact .inr (.inl (weightsAll_mem (List.mem_map.2 ⟨i, List.mem_range.2 hlt, rfl⟩) hk))

/-- a slice whose elements' cells are each told by a datum of ours -/
theorem Rd.rows {e : TypeId} {α : Type} (h : Rd enc P w t cs) (ht : P.underlying t = some (.slice e)) {size : Nat} (hsize : P.cellsOf e = size) (hpos : 0 < size) (f : α → List Value) (R : α → Prop) (hf : ∀ cs', Rd enc P w e cs' → ∃ x, cs' = f x ∧ R x) :
    ∃ (A : Option Addr) (n c : Nat) (L : List α), cs = [.slice A n c] ∧ (A = none → n = 0 ∧ c = 0) ∧ n ≤ c ∧ c ≤ maxLen ∧ c * P.bytesOf e ≤ reachBytes ∧ L.length = n ∧ (∀ x ∈ L, R x) ∧ Reads w w.heap.size size A n (L.flatMap f) := by
  obtain ⟨A, n, c, rfl, h1, h2, h3, h4, h5, h6⟩ := h.slice ht
  rw [hsize] at h6
  rcases Nat.eq_zero_or_pos n with rfl | hn
  · exact ⟨A, 0, c, [], rfl, h1, h2, h3, h4, rfl, fun x hx => (by cases hx), by simpa using Reads.none_⟩
  obtain ⟨ad, rfl⟩ := h5 hn
  have key : ∀ i, i < n → ∃ x, R x ∧ (f x).length = size ∧ ∀ k u, (f x)[k]? = some u → w.cell? (ad.add (i * size + k)) = some u := by
    intro i hi
    obtain ⟨cs', hcs, hrd⟩ := h6 i ad hi rfl
    obtain ⟨_, hl, hat⟩ := World.cells?_some hcs
    obtain ⟨x, rfl, hR⟩ := hf cs' hrd
    refine ⟨x, hR, hl, fun k u hu => ?_⟩
    have hk : k < size := by rw [← hl]; exact (List.getElem?_eq_some_iff.1 hu).1
    rw [← add_of_add, hat k hk, hu]
  have build : ∀ m, m ≤ n → ∃ L : List α, L.length = m ∧ (∀ x ∈ L, R x) ∧ (L.flatMap f).length = m * size ∧ ∀ j u, (L.flatMap f)[j]? = some u → w.cell? (ad.add j) = some u := by
    intro m
    induction m with
    | zero => exact fun _ => ⟨[], rfl, fun x hx => (by cases hx), by simp, fun j u hu => by simp at hu⟩
    | succ m ih =>
      intro hm
      obtain ⟨L, hL, hR, hlen, hc⟩ := ih (by omega)
      obtain ⟨x, hx, hl, hxc⟩ := key m (by omega)
      refine ⟨L ++ [x], by simp [hL], ?_, by simp [List.flatMap_append, hlen, hl, Nat.succ_mul], fun j u hu => ?_⟩
      · intro y hy
        rcases List.mem_append.1 hy with hy | hy
        · exact hR y hy
        · rw [List.mem_singleton.1 hy]; exact hx
      · rw [List.flatMap_append] at hu
        rcases Nat.lt_or_ge j (m * size) with hj | hj
        · rw [List.getElem?_append_left (by omega)] at hu
          exact hc j u hu
        · rw [List.getElem?_append_right (by omega), hlen] at hu
          have := hxc (j - m * size) u (by simpa using hu)
          rwa [show m * size + (j - m * size) = j by omega] at this
  obtain ⟨L, hL, hR, hlen, hc⟩ := build n (Nat.le_refl _)
  refine ⟨some ad, n, c, L, rfl, h1, h2, h3, h4, hL, hR, hlen, fun _ => ⟨ad, rfl, ?_, hc⟩⟩
  have hp : 0 < (L.flatMap f).length := by rw [hlen]; exact Nat.mul_pos hn hpos
  have hlt := cell_lt (hc 0 _ (List.getElem?_eq_getElem hp))
  rwa [block_of_add] at hlt

theorem bcells_flat (l : List UInt8) : l.flatMap (fun b : UInt8 => [Value.int .u8 (b.toNat : Int)]) = bcells l := by
  induction l with
  | nil => rfl
  | cons b l ih => rw [List.flatMap_cons, ih]; rfl

/-- bytes -/
theorem Rd.bytes {e : TypeId} (h : Rd enc P w t cs) (ht : P.underlying t = some (.slice e)) (he : P.underlying e = some (.int .u8)) (hsize : P.cellsOf e = 1) (hby : P.bytesOf e = 1) :
    ∃ (A : Option Addr) (n c : Nat) (l : List UInt8), cs = [.slice A n c] ∧ (A = none → n = 0 ∧ c = 0) ∧ n ≤ c ∧ c ≤ reachBytes ∧ l.length = n ∧ Reads w w.heap.size 1 A n (bcells l) := by
  obtain ⟨A, n, c, l, h1, h2, h3, h4, h5, h6, _, h8⟩ := h.rows ht hsize (by decide) (fun b : UInt8 => [.int .u8 (b.toNat : Int)]) (fun _ => True) (fun cs' hr => by
    obtain ⟨z, rfl, hz⟩ := hr.int he
    have hb := bounds_u8 hz
    refine ⟨UInt8.ofNat z.toNat, ?_, trivial⟩
    have : (UInt8.ofNat z.toNat).toNat = z.toNat := by
      rw [UInt8.toNat_ofNat']
      omega
    rw [this]
    have h : (z.toNat : Int) = z := Int.toNat_of_nonneg hb.1
    rw [h])
  rw [hby, Nat.mul_one] at h5
  refine ⟨A, n, c, l, h1, h2, h3, h5, h6, ?_⟩
  rwa [bcells_flat] at h8
end
end Go.Proofs.YtnbaajplelchjaaGreatDoor
/- A region that draws its order, walked once in the order of its text, where each operation keeps a class of worlds: loads of whole rows, and calls that only lay new blocks, among them. -/
namespace Go.Proofs.YtnbaajplelchjaaGreatDoor
open Go.RowKit

/-- The worlds in which below the heap's size of w0 nothing has turned. -/
structure Past (w0 : World) where
  val : World
  prop : Below w0.heap.size w0 val
instance (w0 : World) : Nonempty (Past w0) := ⟨⟨w0, Below.refl _ _⟩⟩
/-- the class of worlds: in a form that the walk's simp sees through -/
theorem past_of {w0 W : World} (h : Below w0.heap.size w0 W) : ∃ n : Past w0, W = n.val := ⟨⟨W, h⟩, rfl⟩

section
variable {P : Program} {w0 : World}
theorem wp_region_past {id : Nat} {Q : Exit → Act → World → Prop} {a : Act} {l : List Oper} (hm : P.follows .mixedOrders = true) (hB : Region.lexB .any l.toArray = true)
    (h : wpQuiet P l.toArray (fun w' => ∃ n : Past w0, w' = n.val) (fun a' => ∀ n : Past w0, Q .normal a' n.val) l a) : (Code.region id l.toArray true).wp P Q a w0 :=
  wp_region_quiet (C := fun w' => ∃ n : Past w0, w' = n.val) hm hB (past_of (Below.refl _ _).drew) (by
    have hh : (fun a' => ∀ n : Past w0, Q .normal a' n.val) = (fun a' => ∀ w', (∃ n : Past w0, w' = n.val) → Q .normal a' w') := by
      funext a'
      exact propext ⟨fun h w' ⟨n, e⟩ => e ▸ h n, fun h n => h _ ⟨n, rfl⟩⟩
    rw [hh] at h
    simpa using h)

theorem quiet_load_blk {o : Oper} {a : Act} {K : Act → Prop} (ty : TypeId) (x : Operand) (ho : o.op = .load ty x) (g : Nat) (hx : a.eval x = .pointer (some ⟨g, 0, none⟩)) (t : TypeId) (cs : Array Value) (d : TypeDesc)
    (hg : ∀ w, Below w0.heap.size w0 w → Blk w g t cs) (hu : P.underlying ty = some d) (hd : (match d with | .struct _ | .array _ _ => true | _ => false) = true) (hi : (P.info? ty).map (·.size) = some cs.size)
    (hk : K (a.put o.dst (.agg cs))) : o.quiet P a (fun w' => ∃ n : Past w0, w' = n.val) K :=
  ⟨.agg cs, fun w ⟨n, hw⟩ => by
    unfold Oper.quietAt execOp
    subst hw
    simp only [ho, hx, Instr.loadAt, Instr.sureAddr, Sem.run_bind, Sem.run_pure, Result.andThen_ok, run_loadVar_row n.val g t ty cs _ d (hg _ n.prop) hu hd hi]
    exact ⟨rfl, rfl⟩, hk⟩

theorem quiet_call {o : Oper} {a : Act} {K : Act → Prop} (f : FuncId) (xs : Array Operand) (ats : Array TypeId) (ho : o.op = .call { callee := .value (.func f), args := xs, argTypes := ats }) (args : Array Value) (hx0 : xs.toList.map a.eval = args.toList)
    {fn : Func} (hf : P.funcs[f]? = some fn) (hn : (fn.name == "runtime.NumGoroutine") = false) (hb : fn.body.isNone = false) (v : Value) (hc : ∀ w, Below w0.heap.size w0 w → Calls P f args w fun e w'' => e = .returned v ∧ Below w0.heap.size w0 w'') (hk : K (a.put o.dst v)) :
    o.quiet P a (fun w' => ∃ n : Past w0, w' = n.val) K :=
  ⟨v, fun w ⟨n, hw⟩ => by
    have hx : #[] ++ xs.map a.eval ++ #[] = args := by
      apply Array.ext'
      simpa using hx0
    unfold Oper.quietAt
    subst hw
    obtain ⟨dst, op, ty, pos, after, guard⟩ := o
    dsimp only at ho
    subst ho
    have hrun : (callFunc f args).run P n.val = .ok (.enter f args) n.val := by
      have hn' : ¬ fn.name = "runtime.NumGoroutine" := by simpa using hn
      have hb' : ¬ fn.body = none := by
        intro h
        rw [h] at hb
        cases hb
      simp [callFunc, hf, hn', hb']
    rw [execOp_call_go, hx, hrun]
    exact ⟨rfl, (hc _ n.prop).mono fun _ _ ⟨he, hb⟩ => ⟨he, past_of hb⟩⟩, hk⟩

theorem quiet_eql_agg {o : Oper} {a : Act} {K : Act → Prop} (t : TypeId) (x y : Operand) (t' : TypeId) (ho : o.op = .binOp .eql t x y t') (xs ys : Array Value) (hx : a.eval x = .agg xs) (hy : a.eval y = .agg ys)
    (hm : P.eqGuardType P.depth t = false) (b : Bool) (hr : ∀ w, (binOp .eql t (.agg xs) (.agg ys)).run P w = .ok (.bool b) w) (hk : K (a.put o.dst (.bool b))) : o.quiet P a (fun w' => ∃ n : Past w0, w' = n.val) K :=
  ⟨.bool b, fun w hw => by
    unfold Oper.quietAt execOp
    simp only [ho, hx, hy, Sem.run_bind, run_eqGuard_agg w .eql t x y xs ys hm, Result.andThen_ok, hr]
    exact ⟨rfl, rfl⟩, hk⟩

/-- the class: nothing below the heap's size has turned -/
theorem to_class {f : FuncId} {args : Array Value} {v : Value} {w0 w : World} (hB : Below w0.heap.size w0 w) (h : Calls P f args w fun e w' => e = .returned v ∧ Below w.heap.size w w') : Calls P f args w fun e w' => e = .returned v ∧ Below w0.heap.size w0 w' :=
  h.mono fun _ _ ⟨he, hb⟩ => ⟨he, hB.trans (hb.mono hB.size)⟩
theorem to_class_same {f : FuncId} {args : Array Value} {v : Value} {w0 w : World} (hB : Below w0.heap.size w0 w) (h : Calls P f args w fun e w' => e = .returned v ∧ w = w') : Calls P f args w fun e w' => e = .returned v ∧ Below w0.heap.size w0 w' :=
  h.mono fun _ _ ⟨he, hb⟩ => ⟨he, hb ▸ hB⟩
end
end Go.Proofs.YtnbaajplelchjaaGreatDoor
/- A struct in the midst of a block, loaded within a region that draws its order. -/
namespace Go.Proofs.YtnbaajplelchjaaGreatDoor
open Go.RowKit

section
variable {P : Program} {w0 : World}
theorem quiet_load_mid {o : Oper} {a : Act} {K : Act → Prop} (ty : TypeId) (x : Operand) (ho : o.op = .load ty x) (g off : Nat) (hx : a.eval x = .pointer (some ⟨g, off, none⟩)) (cs : List Value) (d : TypeDesc)
    (hg : ∀ w, Below w0.heap.size w0 w → w.rangeAt g off cs) (hu : P.underlying ty = some d) (hd : d.isRow = true) (hi : (P.info? ty).map (·.size) = some cs.length)
    (hk : K (a.put o.dst (.agg cs.toArray))) : o.quiet P a (fun w' => ∃ n : Past w0, w' = n.val) K :=
  ⟨.agg cs.toArray, fun w ⟨n, hw⟩ => by
    unfold Oper.quietAt execOp
    subst hw
    simp only [ho, hx, Instr.loadAt, Instr.sureAddr, Sem.run_bind, Sem.run_pure, Result.andThen_ok, run_loadVar_mid n.val g off ty cs d (hg _ n.prop) hu hd hi]
    exact ⟨rfl, rfl⟩, hk⟩
theorem quiet_load_int {o : Oper} {a : Act} {K : Act → Prop} (ty : TypeId) (x : Operand) (ho : o.op = .load ty x) (g off : Nat) (hx : a.eval x = .pointer (some ⟨g, off, none⟩)) (k : IntKind) (v : Value)
    (hg : ∀ w, Below w0.heap.size w0 w → w.cell? ⟨g, off, none⟩ = some v) (hu : P.underlying ty = some (.int k))
    (hk : K (a.put o.dst v)) : o.quiet P a (fun w' => ∃ n : Past w0, w' = n.val) K :=
  ⟨v, fun w ⟨n, hw⟩ => by
    unfold Oper.quietAt execOp
    subst hw
    have hc := hg _ n.prop
    simp only [ho, hx, Instr.loadAt, Instr.sureAddr, Sem.run_bind, Sem.run_pure, Result.andThen_ok]
    simp [loadVar, isAgg, run_underlying hu, go_sem, hc], hk⟩
end
end Go.Proofs.YtnbaajplelchjaaGreatDoor
/- A region that draws its order, parted at an operation for which all that stand ahead of it are waited: what stands ahead is walked once in the order of its text (each operation quiet in a class of worlds), what stands behind may be walked otherwise. -/
namespace Go.Proofs.YtnbaajplelchjaaGreatDoor
open Go.RowKit

section
variable {P : Program} {ops : Array Oper} {md : Region.Mode} {C : World → Prop}

/-- whatever stands behind place n waits for one that stands between -/
def tailB (md : Region.Mode) (ops : Array Oper) (n : Nat) : Bool :=
  (List.range ops.size).all fun t => decide (t ≤ n) || (List.range t).any fun s => decide (n ≤ s) && Region.waitsFor md ops t s
/-- the listed ones are closed, and none of the tail is listed -/
def headB (md : Region.Mode) (ops : Array Oper) (n : Nat) (listed : Array Bool) : Bool :=
  decide (listed.size = ops.size) && ((List.range ops.size).all fun j => !listed.getD j false || (match ops[j]? with | some o => o.after.toList.all fun e => !Region.binds md e || listed.getD e.on false | none => true)) &&
    (List.range ops.size).all fun t => decide (t < n) || !listed.getD t true
def listUp : Nat → Nat → Array Bool → Array Bool
  | 0, _, listed => listed
  | f + 1, k, listed => listUp f (k + 1) (listed.setIfInBounds k true)
def lexTo (md : Region.Mode) (ops : Array Oper) (n : Nat) : Nat → Nat → Array Bool → Bool
  | 0, _, listed => (Region.ready md ops listed).all fun j => decide (n ≤ j)
  | f + 1, k, listed => (Region.ready md ops listed).contains k && Region.free md ops listed k && lexTo md ops n f (k + 1) (listed.setIfInBounds k true)

theorem head_of {n : Nat} {listed : Array Bool} (h : headB md ops n listed = true) : HeadInv md ops n listed := by
  simp only [headB, Bool.and_eq_true, decide_eq_true_eq] at h
  obtain ⟨⟨h1, h2⟩, h3⟩ := h
  refine ⟨h1, fun j oj hj hl e he hb => ?_, fun t ht htl => ?_⟩
  · have hjl : j < ops.size := (Array.getElem?_eq_some_iff.1 hj).1
    have := List.all_eq_true.1 h2 j (List.mem_range.2 hjl)
    rw [hj, hl] at this
    simp only [Bool.not_true, Bool.false_or] at this
    have := List.all_eq_true.1 this e (by simpa using he)
    rw [hb] at this
    simpa using this
  · have := List.all_eq_true.1 h3 t (List.mem_range.2 htl)
    simp only [Bool.or_eq_true, decide_eq_true_eq, Bool.not_eq_true'] at this
    rcases this with h | h
    · omega
    · exact h

theorem tail_stays {n : Nat} {listed : Array Bool} (hs : Region.sinkB md ops n = true) (hc : tailB md ops n = true) (hn : n < ops.size) (inv : HeadInv md ops n listed) :
    ∀ (d i : Nat), n - i = d → i < n → listed.getD i true = false → ∀ t, n ≤ t → t ∉ Region.ready md ops listed := by
  intro d
  induction d using Nat.strongRecOn with
  | _ d ih =>
    intro i hd hi hun t ht hr
    obtain ⟨_, ot, hot, hall⟩ := mem_ready.1 hr
    have htlt : t < ops.size := (Array.getElem?_eq_some_iff.1 hot).1
    by_cases htn : t = n
    · subst htn
      obtain ⟨j, hj, hj2⟩ := List.any_eq_true.1 (List.all_eq_true.1 hs i (List.mem_range.2 hi))
      simp only [Bool.and_eq_true, decide_eq_true_eq] at hj2
      obtain ⟨oj, hoj, e, he, hb, hon⟩ := Region.waitsFor_spec hj2.2
      have hjle : j ≤ t := by have := List.mem_range.1 hj; omega
      by_cases hjt : j = t
      · subst hjt
        obtain rfl : oj = ot := Option.some.inj (hoj.symm.trans hot)
        have h2 := hall e he hb
        rw [hon, getD_both hun] at h2
        cases h2
      · cases hl : listed.getD j false with
        | true =>
          have h2 := inv.closed j oj hoj hl e he hb
          rw [hon, getD_both hun] at h2
          cases h2
        | false => exact ih (t - j) (by omega) j rfl (by omega) (getD_in (by rw [inv.size]; omega) hl) t (Nat.le_refl _) hr
    · have h1 := List.all_eq_true.1 hc t (List.mem_range.2 htlt)
      simp only [Bool.or_eq_true, decide_eq_true_eq] at h1
      rcases h1 with h1 | h1
      · omega
      · obtain ⟨s, hsr, hs2⟩ := List.any_eq_true.1 h1
        simp only [Bool.and_eq_true, decide_eq_true_eq] at hs2
        have hst := List.mem_range.1 hsr
        obtain ⟨o', ho', e, he, hb, hon⟩ := Region.waitsFor_spec hs2.2
        obtain rfl : o' = ot := Option.some.inj (ho'.symm.trans hot)
        have h2 := hall e he hb
        rw [hon, getD_both (inv.tail s hs2.1 (by omega))] at h2
        cases h2

/-- whatever order is picked among the first n -/
def wpAnyP (P : Program) (md : Region.Mode) (ops : Array Oper) (C : World → Prop) (n : Nat) (L : Array Bool → Act → Prop) : Nat → Array Bool → Act → Prop
  | 0, listed, a => L listed a
  | f + 1, listed, a => Region.ready md ops listed ≠ [] ∧ ∀ i ∈ Region.ready md ops listed, i < n ∧ qOp P ops C i (wpAnyP P md ops C n L f (listed.setIfInBounds i true)) a

theorem wpAny_of_P {n g : Nat} {L : Array Bool → Act → Prop} {Q' : Exit → Act → World → Prop} (hL : ∀ listed a w, C w → L listed a → wpAny P md ops Q' g listed a w) :
    ∀ (f : Nat) (listed : Array Bool) (a : Act) (w : World), C w → wpAnyP P md ops C n L f listed a → wpAny P md ops Q' (f + g) listed a w
  | 0, listed, a, w, hw, h => by rw [Nat.zero_add]; exact hL _ _ _ hw h
  | f + 1, listed, a, w, hw, h => by
    rw [show f + 1 + g = (f + g) + 1 by omega]
    exact ⟨fun h0 => absurd h0 h.1, fun i hi => wpOp_of_qOp hw (fun a' w' hw' h' => wpAny_of_P hL f _ a' w' hw' h') (h.2 i hi).2⟩

theorem wpAnyP_first {n i : Nat} {oi : Oper} {v : Value} {L : Array Bool → Act → Prop} (hi : ops[i]? = some oi) (hsel : ∀ (j : Nat) (o : Oper) cs b, ops[j]? = some o → o.op ≠ .select cs b)
    (hs : Region.sinkB md ops n = true) (hc : tailB md ops n = true) (hn : n < ops.size) (hin : i < n) (hdone : ∀ listed a, L listed a → ∀ j ∈ Region.ready md ops listed, n ≤ j) :
    ∀ (f : Nat) (listed : Array Bool) (a : Act), HeadInv md ops n listed →
      (∀ j oj, ops[j]? = some oj → j ≠ i → listed.getD j true = false → (∀ e ∈ oj.after, Region.binds md e = true → e.on ≠ i) → oi.apart ops oj = true) →
      i ∈ Region.ready md ops listed → YieldsIn P ops C oi v a →
      wpAnyP P md ops C n L f (listed.setIfInBounds i true) (a.put oi.dst v) → wpAnyP P md ops C n L (f + 1) listed a := by
  intro f
  induction f with
  | zero =>
    intro listed a inv _ hr hy H
    have hun := (mem_ready.1 hr).1
    refine ⟨fun h => (by rw [h] at hr; cases hr), fun j hj => ?_⟩
    have hjn : j < n := Nat.lt_of_not_le fun h => tail_stays hs hc hn inv _ i rfl hin hun j h hj
    refine ⟨hjn, ?_⟩
    by_cases hji : j = i
    · subst hji; exact hy.qOp hi H
    · have := hdone _ _ H j (ready_mono hj hji)
      omega
  | succ f ih =>
    intro listed a inv hfree hr hy H
    have hun := (mem_ready.1 hr).1
    refine ⟨fun h => (by rw [h] at hr; cases hr), fun j hj => ?_⟩
    have hjn : j < n := Nat.lt_of_not_le fun h => tail_stays hs hc hn inv _ i rfl hin hun j h hj
    refine ⟨hjn, ?_⟩
    by_cases hji : j = i
    · subst hji; exact hy.qOp hi H
    · have h1 := (H.2 j (ready_mono hj hji)).2
      obtain ⟨hjun, oj, hoj, hall⟩ := mem_ready.1 hj
      have hnot : ∀ e ∈ oj.after, Region.binds md e = true → e.on ≠ i := fun e he hb heq => by
        have h1 := hall e he hb
        rw [heq, getD_both hun] at h1
        cases h1
      have h2 := qOp_put hoj (hfree j oj hoj hji hjun hnot) (fun cs b => hsel i oi cs b hi) (fun cs b => hsel j oj cs b hoj) hy h1
      have hfree' : ∀ k ok, ops[k]? = some ok → k ≠ i → (listed.setIfInBounds j true).getD k true = false →
          (∀ e ∈ ok.after, Region.binds md e = true → e.on ≠ i) → oi.apart ops ok = true := fun k ok hk hki hun hno => by
        refine hfree k ok hk hki ?_ hno
        by_cases hjk : j = k
        · subst hjk; exact hjun
        · rw [getD_set_ne true hjk] at hun; exact hun
      refine qOp_mono (fun a' h3 => ih (listed.setIfInBounds j true) a' (inv.set hj hjn) hfree' (ready_mono hr (Ne.symm hji)) h3.1 ?_) h2
      rw [Array.setIfInBounds_comm _ _ hji]
      exact h3.2

theorem wpAnyP_lex {n : Nat} {K : Act → Prop} (hsel : Region.noSelect ops = true) (hs : Region.sinkB md ops n = true) (hc : tailB md ops n = true) (hn : n < ops.size) :
    ∀ (l : List Oper) (k : Nat) (listed : Array Bool) (a : Act), (∀ j, j < l.length → l[j]? = ops[k + j]?) → k + l.length = n → HeadInv md ops n listed →
    lexTo md ops n l.length k listed = true → wpQuiet P ops C K l a →
    wpAnyP P md ops C n (fun listed' a' => (listed' = listUp l.length k listed ∧ ∀ j ∈ Region.ready md ops listed', n ≤ j) ∧ K a') l.length listed a
  | [], k, listed, a, _, hk, _, hB, h => ⟨⟨rfl, fun j hj => by simpa using List.all_eq_true.1 hB j hj⟩, h⟩
  | o :: l, k, listed, a, hl, hk, inv, hB, h => by
    have h0 : ops[k]? = some o := by simpa using (hl 0 (by simp)).symm
    simp only [List.length_cons, lexTo, Bool.and_eq_true] at hB
    obtain ⟨⟨hr, hf⟩, hB'⟩ := hB
    have hkn : k < n := by simp only [List.length_cons] at hk; omega
    have hr' : k ∈ Region.ready md ops listed := by simpa using hr
    have hst : qOp P ops C k (wpQuiet P ops C K l) a := by unfold qOp; simp only [h0]; exact h
    obtain ⟨v, hy, hK⟩ := yieldsIn_of_qOp h0 hst
    exact wpAnyP_first h0 (Region.noSelect_spec hsel) hs hc hn hkn (fun listed' a' hL => hL.1.2) l.length listed a inv (Region.free_spec h0 hf) hr' hy
      (wpAnyP_lex hsel hs hc hn l (k + 1) _ _ (fun j hj => by have := hl (j + 1) (by simp; omega); simpa [Nat.add_assoc, Nat.add_comm 1 j] using this) (by simp only [List.length_cons] at hk; omega) (inv.set hr' hkn) hB' hK)

/-- all that is asked of the region's text -/
def barB (md : Region.Mode) (ops : Array Oper) (n f k : Nat) (listed : Array Bool) : Bool :=
  Region.noSelect ops && decide (n < ops.size) && Region.sinkB md ops n && tailB md ops n && headB md ops n listed && lexTo md ops n f k listed && decide (k + f = n)

theorem wpAny_bar {l : List Oper} {Q : Exit → Act → World → Prop} {w : World} {a : Act} (k f n g : Nat) (listed : Array Bool) (hg : f + g = 0 + (f + g)) (hB : barB md l.toArray n f k listed = true) (hC : C w)
    (h : wpQuiet P l.toArray C (fun a' => ∀ w', C w' → wpAny P md l.toArray Q g (listUp f k listed) a' w') ((l.drop k).take f) a) : wpAny P md l.toArray Q (f + g) listed a w := by
  simp only [barB, Bool.and_eq_true, decide_eq_true_eq] at hB
  obtain ⟨⟨⟨⟨⟨⟨hsel, hn⟩, hs⟩, hc⟩, hh⟩, hlex⟩, hkf⟩ := hB
  have hn' : n < l.length := by simpa using hn
  have hlen : ((l.drop k).take f).length = f := by rw [List.length_take, List.length_drop]; omega
  have H := wpAnyP_lex (P := P) (C := C) (md := md) hsel hs hc hn ((l.drop k).take f) k listed a (fun j hj => by
    rw [hlen] at hj
    rw [List.getElem?_take, if_pos hj, List.getElem?_drop]
    simp) (by rw [hlen]; exact hkf) (head_of hh) (by rw [hlen]; exact hlex) h
  rw [hlen] at H
  exact wpAny_of_P (Q' := Q) (g := g) (fun listed' a' w' hw' hL => by rw [hL.1.1]; exact hL.2 w' hw') f listed a w hC H

/-- the region's first operations, up to a barrier; then the others from there -/
theorem wp_region_bar {id : Nat} {Q : Exit → Act → World → Prop} {a : Act} {w0 : World} {l : List Oper} (n g : Nat) (hng : n + g = l.length) (hm : P.follows .mixedOrders = true) (hB : barB .any l.toArray n n 0 (Array.replicate l.length false) = true)
    (h : wpQuiet P l.toArray (fun w' => ∃ n : Past w0, w' = n.val) (fun a' => ∀ np : Past w0, wpAny P .any l.toArray Q g (listUp n 0 (Array.replicate l.length false)) a' np.val) (l.take n) a) : (Code.region id l.toArray true).wp P Q a w0 := by
  refine wp_region_any hm ?_
  have hh := wpAny_bar (P := P) (C := fun w' => ∃ n : Past w0, w' = n.val) (md := .any) (Q := Q) (w := { w0 with drawn := w0.drawn + 1 }) (a := a) (l := l) 0 n n g (Array.replicate l.length false) (Nat.zero_add _).symm hB (past_of (Below.refl _ _).drew) (by
    have e : (fun a' => ∀ w', (∃ n : Past w0, w' = n.val) → wpAny P .any l.toArray Q g (listUp n 0 (Array.replicate l.length false)) a' w') = (fun a' => ∀ np : Past w0, wpAny P .any l.toArray Q g (listUp n 0 (Array.replicate l.length false)) a' np.val) := by
      funext a'
      exact propext ⟨fun h n => h _ ⟨n, rfl⟩, fun h w' ⟨n, e⟩ => e ▸ h n⟩
    rw [e, List.drop_zero]
    exact h)
  rw [hng] at hh
  simpa using hh

/-- from a place on: a barrier more -/
theorem wpAny_past_bar {Q : Exit → Act → World → Prop} {a : Act} {w0 : World} {l : List Oper} (k f n g fg : Nat) (listed : Array Bool) (hfg : f + g = fg) (hB : barB .any l.toArray n f k listed = true)
    (h : wpQuiet P l.toArray (fun w' => ∃ n : Past w0, w' = n.val) (fun a' => ∀ np : Past w0, wpAny P .any l.toArray Q g (listUp f k listed) a' np.val) ((l.drop k).take f) a) : wpAny P .any l.toArray Q fg listed a w0 := by
  subst hfg
  refine wpAny_bar (P := P) (C := fun w' => ∃ n : Past w0, w' = n.val) (md := .any) k f n g listed (Nat.zero_add _).symm hB (past_of (Below.refl _ _)) ?_
  have e : (fun a' => ∀ w', (∃ n : Past w0, w' = n.val) → wpAny P .any l.toArray Q g (listUp f k listed) a' w') = (fun a' => ∀ np : Past w0, wpAny P .any l.toArray Q g (listUp f k listed) a' np.val) := by
    funext a'
    exact propext ⟨fun h n => h _ ⟨n, rfl⟩, fun h w' ⟨n, e⟩ => e ▸ h n⟩
  rw [e]
  exact h

/-- from a place on to the region's end -/
theorem wpAny_past_end {Q : Exit → Act → World → Prop} {a : Act} {w0 : World} {l : List Oper} (k f : Nat) (listed : Array Bool) (hk : k + f = l.length) (hB : (Region.noSelect l.toArray && Region.lexFrom .any l.toArray f k listed) = true)
    (h : wpQuiet P l.toArray (fun w' => ∃ n : Past w0, w' = n.val) (fun a' => ∀ np : Past w0, Q .normal a' np.val) (l.drop k) a) : wpAny P .any l.toArray Q f listed a w0 := by
  simp only [Bool.and_eq_true] at hB
  have hlen : (l.drop k).length = f := by rw [List.length_drop]; omega
  have h' := wpAnyQ_lex (P := P) (C := fun w' => ∃ n : Past w0, w' = n.val) (md := .any) hB.1 (l.drop k) k listed a (fun j => by rw [List.getElem?_drop]; simp) (by rw [hlen]; exact hB.2) h
  rw [hlen] at h'
  exact wpAny_of_quiet (Q := fun a' => ∀ np : Past w0, Q .normal a' np.val) (fun _ w' ⟨n, e⟩ h => e ▸ h n) _ _ _ _ (past_of (Below.refl _ _)) h'

/-- one step of any order, by a law for the class -/
theorem step_past {ops : Array Oper} {o : Oper} {a : Act} {w0 : World} {K : Act → World → Prop} {Q : Exit → Act → World → Prop} {E : Prop} (np : Past w0) (hw : Region.wanted o (yielded ops a.tmps) = true)
    (h : o.quiet P a (fun w' => ∃ n : Past w0, w' = n.val) (fun a' => ∀ n : Past w0, K a' n.val)) : if Region.wanted o (yielded ops a.tmps) = true then Oper.wp P o a np.val K Q else E := by
  rw [if_pos hw]
  exact Oper.wp_of_quiet (C := fun w' => ∃ n : Past w0, w' = n.val) ⟨np, rfl⟩ (fun a' w' ⟨n, e⟩ h => e ▸ h n) h
theorem ready_cons {l : List Oper} {Q : Exit → Act → World → Prop} {fuel : Nat} {listed : Array Bool} {a : Act} {w : World} {i : Nat} {o : Oper} {rs : List Nat} (ho : l[i]? = some o)
    (h : ∀ K' : Act → World → Prop, (∀ a w, wpAny P md l.toArray Q fuel (listed.setIfInBounds i true) a w → K' a w) → if Region.wanted o (yielded l.toArray a.tmps) = true then Oper.wp P o a w K' Q else K' (a.put o.dst undef) w)
    (hs : AllReady P md l.toArray Q fuel listed a w rs) : AllReady P md l.toArray Q fuel listed a w (i :: rs) := AllReady.cons (by simpa using ho) h hs
/-- one step of any order: a call -/
theorem step_call {ops : Array Oper} {o : Oper} {a : Act} {w : World} {K : Act → World → Prop} {Q : Exit → Act → World → Prop} {E : Prop} (hw : Region.wanted o (yielded ops a.tmps) = true)
    (f : FuncId) (xs : Array Operand) (ats : Array TypeId) (ho : o.op = .call { callee := .value (.func f), args := xs, argTypes := ats }) (args : Array Value) (hx0 : xs.toList.map a.eval = args.toList)
    {fn : Func} (hf : P.funcs[f]? = some fn) (hn : (fn.name == "runtime.NumGoroutine") = false) (hb : fn.body.isNone = false) {R : Ending → World → Prop} (hc : Calls P f args w R) (hk : ∀ e w', R e w' → ∃ v, e = .returned v ∧ K (a.put o.dst v) w') :
    if Region.wanted o (yielded ops a.tmps) = true then Oper.wp P o a w K Q else E := by
  rw [if_pos hw]
  have hx : #[] ++ xs.map a.eval ++ #[] = args := by
    apply Array.ext'
    simpa using hx0
  unfold Oper.wp
  obtain ⟨dst, op, ty, pos, after, guard⟩ := o
  dsimp only at ho
  subst ho
  have hrun : (callFunc f args).run P w = .ok (.enter f args) w := by
    have hn' : ¬ fn.name = "runtime.NumGoroutine" := by simpa using hn
    have hb' : ¬ fn.body = none := by
      intro h
      rw [h] at hb
      cases hb
    simp [callFunc, hf, hn', hb']
  rw [execOp_call_go, hx, hrun]
  exact hc.mono fun e w' h => by
    obtain ⟨v, rfl, hK⟩ := hk e w' h
    exact hK
theorem quiet_conv {o : Oper} {a : Act} {w0 : World} {K : Act → Prop} (src dst : TypeId) (x : Operand) (ho : o.op = .convert src dst x) (v u : Value) (hx : a.eval x = v) (hr : ∀ w, Below w0.heap.size w0 w → (convert src dst v).run P w = .ok u w) (hk : K (a.put o.dst u)) :
    o.quiet P a (fun w' => ∃ n : Past w0, w' = n.val) K :=
  ⟨u, fun w ⟨n, hw⟩ => by
    unfold Oper.quietAt execOp
    subst hw
    simp only [ho, hx, Sem.run_bind, hr _ n.prop, Result.andThen_ok]
    exact ⟨rfl, rfl⟩, hk⟩
end
end Go.Proofs.YtnbaajplelchjaaGreatDoor
