/- Part 0 of a proof: lemmas and walks. -/
import Derived.Test.YtpjjnmdfgcfnmaaDoorRows
import Derived.Below
import Derived.Laws.OwnMore
import Derived.Deep.AppendLies
import Derived.Deep.Draws
import Derived.Laws.Rows
import Derived.Maps.AppendAt
import Derived.RegionTactic
import Derived.OwnWalk
import Derived.Handy
import Derived.Lib.Hide
import Derived.WalkSpells
import Derived.Laws.BytesArg
import Derived.Deep.Slices
import Derived.Deep.Fields
import Derived.ChangeSame
import Derived.ProofKit
import Derived.SizedLaws
import Derived.ChangeArms
import Derived.Deep.QuietTactic
import Derived.BigQuiet
import Derived.StillTail
set_option linter.unusedVariables false
set_option linter.unusedSimpArgs false
set_option linter.defProp false
set_option maxRecDepth 100000
set_option maxHeartbeats 4000000
namespace Go.Proofs.YtpjjnmdfgcfnmaaDoor
open Go.RowKit
section

theorem block_of_add (a : Addr) (n : Nat) : (a.add n).block = a.block := by unfold Addr.add; split <;> rfl
theorem add_of_add (a : Addr) (i j : Nat) : (a.add i).add j = a.add (i + j) := by
 unfold Addr.add
 by_cases hi : i = 0 <;> by_cases hj : j = 0 <;> simp [hi, hj, Nat.add_assoc]

def Reads (w : World) (B size : Nat) (A : Option Addr) (n : Nat) (xs : List Value) : Prop :=
 xs.length = n * size ∧ (0 < n → ∃ ad, A = some ad ∧ ad.block < B ∧ ∀ j u, xs[j]? = some u → w.cell? (ad.add j) = some u)

section
variable {w w' : World} {B B' size n : Nat} {A : Option Addr} {xs : List Value}
theorem Reads.none_ : Reads w B size A 0 [] := ⟨by simp, fun h => absurd h (by omega)⟩
theorem Reads.at_ {k : Nat} (h : Reads w B 1 A n xs) (hk : k < n) : ∃ ad u, A = some ad ∧ ad.block < B ∧ xs[k]? = some u ∧ w.cell? (ad.add k) = some u := by
 obtain ⟨ad, e, hb, hc⟩ := h.2 (by omega)
 have hl : k < xs.length := by have := h.1; omega
 exact ⟨ad, xs[k], e, hb, List.getElem?_eq_getElem hl, hc k _ (List.getElem?_eq_getElem hl)⟩
theorem Reads.keep (h : Reads w B size A n xs) (hk : ∀ p : Addr, p.block < B → w'.cell? p = w.cell? p) : Reads w' B size A n xs :=
 ⟨h.1, fun hn => by
   obtain ⟨ad, e, hb, hc⟩ := h.2 hn
   exact ⟨ad, e, hb, fun j u hu => (hk _ (by rw [block_of_add]; exact hb)).trans (hc j u hu)⟩⟩
theorem Reads.more (h : Reads w B size A n xs) (hB : B ≤ B') : Reads w B' size A n xs :=
 ⟨h.1, fun hn => by
   obtain ⟨ad, e, hb, hc⟩ := h.2 hn
   exact ⟨ad, e, by omega, hc⟩⟩
theorem Reads.below (h : Reads w B size A n xs) (hb : Below B w w') : Reads w' B size A n xs := h.keep fun _ hp => hb.cell hp
theorem Reads.drew (h : Reads w B size A n xs) : Reads w.drew B size A n xs := h
theorem Reads.drewN (h : Reads w B size A n xs) (k : Nat) : Reads (w.drewN k) B size A n xs := h
theorem Reads.alloc (h : Reads w B size A n xs) (hB : B ≤ w.heap.size) (o : Obj) : Reads (w.alloc o) B size A n xs := h.keep fun p hp => World.cell?_alloc_lt w o p (by omega)
theorem Reads.setCell (h : Reads w B size A n xs) {p : Addr} (hB : B ≤ p.block) (u : Value) : Reads (w.setCell p u) B size A n xs :=
 h.keep fun q hq => World.cell?_setCell_other w p q u (fun e => by subst e; omega)
theorem Reads.grown (h : Reads w B size A n xs) {row : Option Nat} (hg : w.grownBy w' row) (hB : B ≤ w.heap.size) (hr : ∀ g, row = some g → B ≤ g) : Reads w' B size A n xs :=
 h.keep fun p hp => World.cell?_of_block (hg.block p.block (by omega) (fun e => by have := hr _ e.symm; omega))
theorem Reads.cut (h : Reads w B size A n xs) {k cap : Nat} (hk : k ≤ n) (hc : n ≤ cap) :
 Reads w B size (if cap = k then A else A.map (·.add (k * size))) (n - k) (xs.drop (k * size)) := by
 refine ⟨by rw [List.length_drop, h.1, Nat.sub_mul], fun hn => ?_⟩
 obtain ⟨ad, rfl, hb, hcell⟩ := h.2 (by omega)
 rw [if_neg (by omega)]
 refine ⟨ad.add (k * size), rfl, by rw [block_of_add]; exact hb, fun j u hu => ?_⟩
 rw [add_of_add]
 exact hcell _ u (by rw [← hu, List.getElem?_drop])
theorem Reads.of_own {base : Nat} {e : TypeId} {c : Nat} (h : w.ownsRow base e size (.slice A n c) n xs) : Reads w w.heap.size size A n xs := by
 refine ⟨h.1, fun hn => ?_⟩
 obtain ⟨g, cap, hv, _, hlt⟩ := h.form hn
 have hA : A = some ⟨g, 0, none⟩ := by injection hv
 subst hA
 exact ⟨_, rfl, hlt, h.cells (g := g) rfl⟩
end

def Blk (w : World) (g : Nat) (t : TypeId) (cs : Array Value) : Prop := w.heap[g]? = some (.cells cs t (0, 0))

section
variable {w w' : World} {g : Nat} {t : TypeId} {cs : Array Value}
theorem Blk.lt (h : Blk w g t cs) : g < w.heap.size := by
 rcases Nat.lt_or_ge g w.heap.size with hlt | hge
 · exact hlt
 · unfold Blk at h; rw [Array.getElem?_eq_none hge] at h; cases h
theorem Blk.cell (h : Blk w g t cs) (i : Nat) : w.cell? ⟨g, i, none⟩ = cs[i]? := cell_of_row w g i cs t (0, 0) h
theorem Blk.frozen (h : Blk w g t cs) (i : Nat) : w.frozen? ⟨g, i, none⟩ = false := by
 unfold Blk at h
 simp [World.frozen?, h]
theorem Blk.new (w : World) (t : TypeId) (cs : Array Value) : Blk (w.alloc (.cells cs t)) w.heap.size t cs := heap_alloc_new w _
theorem Blk.drew (h : Blk w g t cs) : Blk w.drew g t cs := h
theorem Blk.drewN (h : Blk w g t cs) (n : Nat) : Blk (w.drewN n) g t cs := h
theorem Blk.alloc (h : Blk w g t cs) (o : Obj) : Blk (w.alloc o) g t cs := (Below.heap_alloc w o g h.lt).trans h
theorem Blk.set_ (h : Blk w g t cs) (i : Nat) (u : Value) : Blk (w.setCell ⟨g, i, none⟩ u) g t (cs.setIfInBounds i u) := by
 unfold Blk at h ⊢
 simp [World.setCell, Array.getElem?_modify, h]
theorem Blk.far (h : Blk w g t cs) {p : Addr} (hp : g ≠ p.block) (u : Value) : Blk (w.setCell p u) g t cs := (Below.heap_setCell w p u g hp).trans h
theorem Blk.below {B : Nat} (h : Blk w g t cs) (hb : Below B w w') (hg : g < B) : Blk w' g t cs := (hb.block g hg).trans h
theorem Blk.grown {row : Option Nat} (h : Blk w g t cs) (hb : w.grownBy w' row) (hg : some g ≠ row) : Blk w' g t cs := (hb.block g h.lt hg).trans h
theorem Blk.ne_ {g' : Nat} {t' : TypeId} {cs' : Array Value} (h : Blk w g t cs) (h' : Blk w g' t' cs') (hne : t ≠ t') : g ≠ g' := by
 rintro rfl
 unfold Blk at h h'
 rw [h] at h'
 injection h' with h'
 injection h' with _ ht
 exact hne ht
theorem own_blk_ne {base : Nat} {e : TypeId} {size n : Nat} {v : Value} {xs : List Value} (h : w.ownsRow base e size v n xs) (hg : Blk w g t cs) (hne : e ≠ t) : v.ownBlock ≠ some g := by
 rcases h.2 with ⟨rfl, _⟩ | ⟨g', cap, cur, rfl, _, hh, _⟩
 · simp [Value.ownBlock]
 · intro he
   have : g' = g := by simpa [Value.ownBlock] using he
   subst this
   exact Blk.ne_ (t := e) hh hg hne rfl
end

section
variable {P : Program} (w : World)

theorem run_append_of_nil (base : Nat) (t ty e : TypeId) (i : TypeInfo) (size : Nat) (ht : P.underlying t = some (.slice e)) (hi : P.info? e = some i)
 (v : Value) (n : Nat) (xs : List Value) (hown : w.ownsRow base e size v n xs) (c : Nat) : (Builtin.append_ #[t, t] ty #[v, .slice none 0 c]).run P w = .ok v w := by
 rcases hown.2 with ⟨rfl, rfl⟩ | ⟨g, cap, cur, rfl, _, _, hnc, _⟩
 · simp [Builtin.append_, run_underlying ht, sizeOf, typeInfo, hi, Builtin.lenOf, Builtin.firstCells]
 · simp [Builtin.append_, run_underlying ht, sizeOf, typeInfo, hi, Builtin.lenOf, Builtin.firstCells, hnc, storeCells]

theorem run_append_any (base : Nat) (t ty e : TypeId) (i : TypeInfo) (z : Value) (size bytes : Nat) (ht : P.underlying t = some (.slice e)) (hi : P.info? e = some i) (hz : i.zero = some z)
 (hsize : i.size = size) (hby : i.bytes = bytes) (hzs : z.cells.size = size) (hsz : 0 < size)
 (v : Value) (n : Nat) (xs : List Value) (hown : w.ownsRow base e size v n xs)
 (B : Nat) (A : Option Addr) (m c : Nat) (news : List Value) (hr : Reads w B size A m news) (h1 : ∀ u ∈ news, u.oneCell' = true)
 (h63 : n + m ≤ maxLen) (hbytes : (n + m) * bytes ≤ 140737488355328) (hbase : base ≤ w.heap.size) :
 ∃ v' w', (Builtin.append_ #[t, t] ty #[v, .slice A m c]).run P w = .ok v' w' ∧ w'.ownsRow base e size v' (n + m) (xs ++ news) ∧ w.grownBy w' v.ownBlock ∧
   (v'.ownBlock = v.ownBlock ∨ v'.ownBlock = some w.heap.size) := by
 rcases A with _ | ad
 · have hm : m = 0 := by
    rcases Nat.eq_zero_or_pos m with h0 | h0
    · exact h0
    · obtain ⟨ad, h, _⟩ := hr.2 h0
      cases h
   subst hm
   have hn : news = [] := List.eq_nil_of_length_eq_zero (by simpa using hr.1)
   subst hn
   exact ⟨v, w, run_append_of_nil w base t ty e i size ht hi v n xs hown c, by simpa using hown, World.grownBy.refl w _, .inl rfl⟩
 · have hcells : ∀ j u, news[j]? = some u → w.cell? (ad.add j) = some u := by
    intro j u hu
    rcases Nat.eq_zero_or_pos m with h0 | h0
    · subst h0
      have hn : news = [] := List.eq_nil_of_length_eq_zero (by simpa using hr.1)
      subst hn
      simp at hu
    · obtain ⟨ad', h, _, hc⟩ := hr.2 h0
      injection h with h
      subst h
      exact hc j u hu
   obtain ⟨v', w', hrun, h2, h3, _, h5⟩ := run_append_own_at (P := P) w base t ty e i z size bytes ht hi hz hsize hby hzs hsz v n xs hown ad m c news hr.1 hcells h1 h63 hbytes hbase
   exact ⟨v', w', hrun, h2, h3, h5⟩

theorem wp_append_any {o : Oper} {a : Act} {K : Act → World → Prop} {Q : Exit → Act → World → Prop} (s x : Operand) (t : TypeId)
 (ho : o.op = .call { callee := .builtin .append, args := #[s, x], argTypes := #[t, t] })
 (base : Nat) (e : TypeId) (i : TypeInfo) (z : Value) (size bytes : Nat) (ht : P.underlying t = some (.slice e)) (hi : P.info? e = some i) (hz : i.zero = some z)
 (hsize : i.size = size) (hby : i.bytes = bytes) (hzs : z.cells.size = size) (hsz : 0 < size)
 (v : Value) (n : Nat) (xs : List Value) (hs : a.eval s = v) (hown : w.ownsRow base e size v n xs)
 (B : Nat) (A : Option Addr) (m c : Nat) (news : List Value) (hx : a.eval x = .slice A m c) (hr : Reads w B size A m news) (h1 : ∀ u ∈ news, u.oneCell' = true)
 (h63 : n + m ≤ maxLen) (hbytes : (n + m) * bytes ≤ 140737488355328) (hbase : base ≤ w.heap.size)
 (h : ∀ v' w', w'.ownsRow base e size v' (n + m) (xs ++ news) → w.grownBy w' v.ownBlock → (v'.ownBlock = v.ownBlock ∨ v'.ownBlock = some w.heap.size) → K (a.put o.dst v') w') : o.wp P a w K Q := by
 obtain ⟨v', w', hrun, h2, h3, h4⟩ := run_append_any (P := P) w base t o.type e i z size bytes ht hi hz hsize hby hzs hsz v n xs hown B A m c news hr h1 h63 hbytes hbase
 unfold Oper.wp execOp
 simp only [ho, resolve, invoke, builtin, Sem.run_bind, Sem.run_pure, Result.andThen_ok, List.map_toArray, List.map_cons, List.map_nil, hs, hx, hrun]
 exact h v' w' h2 h3 h4

theorem wpList_append_any {ops : Array Oper} {rest : List Oper} {o : Oper} {a : Act} {Q : Exit → Act → World → Prop} (hgd : o.guard = none) (s x : Operand) (t : TypeId)
 (ho : o.op = .call { callee := .builtin .append, args := #[s, x], argTypes := #[t, t] })
 (base : Nat) (e : TypeId) (i : TypeInfo) (z : Value) (size bytes : Nat) (ht : P.underlying t = some (.slice e)) (hi : P.info? e = some i) (hz : i.zero = some z)
 (hsize : i.size = size) (hby : i.bytes = bytes) (hzs : z.cells.size = size) (hsz : 0 < size)
 (v : Value) (n : Nat) (xs : List Value) (hs : a.eval s = v) (hown : w.ownsRow base e size v n xs)
 (B : Nat) (A : Option Addr) (m c : Nat) (news : List Value) (hx : a.eval x = .slice A m c) (hr : Reads w B size A m news) (h1 : ∀ u ∈ news, u.oneCell' = true)
 (h63 : n + m ≤ maxLen) (hbytes : (n + m) * bytes ≤ 140737488355328) (hbase : base ≤ w.heap.size)
 (h : ∀ v' w', w'.ownsRow base e size v' (n + m) (xs ++ news) → w.grownBy w' v.ownBlock → (v'.ownBlock = v.ownBlock ∨ v'.ownBlock = some w.heap.size) → wpList P ops Q rest (a.put o.dst v') w') : wpList P ops Q (o :: rest) a w :=
 wpList_plain hgd fun _ hK => wp_append_any w s x t ho base e i z size bytes ht hi hz hsize hby hzs hsz v n xs hs hown B A m c news hx hr h1 h63 hbytes hbase fun v' w' h2 h3 h4 => hK _ _ (h v' w' h2 h3 h4)

end

theorem Blk.new' {w : World} {g : Nat} {t : TypeId} {cs : Array Value} (h : g = w.heap.size) : Blk (w.alloc (.cells cs t)) g t cs := by subst h; exact Blk.new w t cs
theorem only_setCell' {w : World} {g : Nat} {p : Addr} (hp : p.block = g ∨ w.heap.size ≤ p.block) (u : Value) : w.grownBy (w.setCell p u) (some g) :=
 ⟨rfl, rfl, rfl, by simp [World.setCell], fun i hi hne => Below.heap_setCell w p u i (by
   rintro rfl
   rcases hp with hp | hp
   · exact hne (by rw [hp])
   · omega)⟩
theorem only_setRow' (w : World) (g : Nat) (cs : Array Value) : w.grownBy (w.setRow g cs) (some g) :=
 ⟨rfl, rfl, rfl, by simp [World.setRow], fun i _ hne => setRow_other w g i cs (fun e => hne (by rw [e]))⟩
theorem cells_setRow {w : World} {g : Nat} {t : TypeId} {old cs : Array Value} (h : Blk w g t old) : Blk (w.setRow g cs) g t cs := setRow_heap w g old cs t _ h
theorem below_setRow' {B g : Nat} {w0 w : World} (hb : Below B w0 w) (hg : B ≤ g) (cs : Array Value) : Below B w0 (w.setRow g cs) :=
 hb.trans ⟨rfl, rfl, rfl, by simp [World.setRow], fun k hk => setRow_other w g k cs (by omega)⟩
theorem own_set {w : World} {base : Nat} {e t : TypeId} {size n g : Nat} {v : Value} {xs : List Value} {cs : Array Value} (h : w.ownsRow base e size v n xs) (hg : Blk w g t cs) (hne : e ≠ t) (i : Nat) (u : Value) : (w.setCell ⟨g, i, none⟩ u).ownsRow base e size v n xs :=
 h.kept (only_setCell' (.inl rfl) u) (.inr (own_blk_ne h hg hne))
theorem own_lt {w : World} {base : Nat} {e : TypeId} {size n : Nat} {v : Value} {xs : List Value} (h : w.ownsRow base e size v n xs) {g : Nat} (hg : w.heap.size ≤ g) : v.ownBlock ≠ some g := fun e => by
 have := (h.lt _ e).2
 omega
theorem own_nil {w : World} {base : Nat} {e : TypeId} {size n c : Nat} {A : Option Addr} {xs : List Value} (h : w.ownsRow base e size (.slice A n c) n xs) : A = none → n = 0 ∧ c = 0 := by
 rintro rfl
 rcases h.2 with ⟨h1, h2⟩ | ⟨g, cap, cur, h1, _⟩
 · injection h1 with _ _ h3
   exact ⟨h2, h3⟩
 · injection h1 with h1 _ _
   cases h1
theorem slice_form {w : World} {base size n : Nat} {e : TypeId} {v : Value} {xs : List Value} (h : w.ownsRow base e size v n xs) : ∃ A' c', v = .slice A' n c' := by
 rcases h.2 with ⟨rfl, h0⟩ | ⟨g, cap, cur, rfl, _⟩
 · exact ⟨none, 0, by rw [h0]⟩
 · exact ⟨_, _, rfl⟩
theorem below_drewN' {B : Nat} {a w : World} (h : Below B a w) (n : Nat) : Below B a (w.drewN n) := ⟨h.os, h.tape, h.output, h.size, h.block⟩

def bcells (l : List UInt8) : List Value := l.map fun b => .int .u8 (b.toNat : Int)
theorem bcells_length (l : List UInt8) : (bcells l).length = l.length := by simp [bcells]
theorem bcells_get (l : List UInt8) (i : Nat) : (bcells l)[i]? = l[i]?.map fun b => .int .u8 (b.toNat : Int) := by simp [bcells]
theorem bcells_one (l : List UInt8) : ∀ u ∈ bcells l, u.oneCell' = true := by
 intro u hu
 obtain ⟨b, _, rfl⟩ := List.mem_map.1 hu
 rfl
theorem bcells_append (l m : List UInt8) : bcells (l ++ m) = bcells l ++ bcells m := by simp [bcells]
theorem Reads.plain {w : World} {B size n : Nat} {A : Option Addr} {xs : List Value} (h : Reads w B size A n xs) (hn : 0 < n) (hs : 0 < size) :
 ∃ b off, A = some ⟨b, off, none⟩ ∧ b < B ∧ ∀ j u, xs[j]? = some u → w.cell? ⟨b, off + j, none⟩ = some u := by
 obtain ⟨⟨b, off, spot⟩, rfl, hb, hc⟩ := h.2 hn
 have hl : 0 < xs.length := by rw [h.1]; exact Nat.mul_pos hn hs
 have h0 := hc 0 _ (List.getElem?_eq_getElem hl)
 have hspot : spot = none := by simpa [Addr.add] using World.cell?_spot h0
 subst hspot
 refine ⟨b, off, rfl, hb, fun j u hu => ?_⟩
 have := hc j u hu
 rwa [Go.WideShapes.add_plain] at this

theorem run_string_of_bytes {P : Program} {w : World} {src e : TypeId} (hs : P.underlying src = some (.slice e)) (he : P.underlying e = some (.int .u8)) {B n c : Nat} {A : Option Addr} {l : List UInt8} (hr : Reads w B 1 A n (bcells l)) :
 ∀ dst, P.underlying dst = some .string → (convert src dst (.slice A n c)).run P w = .ok (.string ⟨l.toArray⟩) w := by
 have hl : l.length = n := by have := hr.1; rw [bcells_length] at this; omega
 intro dst hd
 rcases A with _ | ad
 · have hn : n = 0 := by
    rcases Nat.eq_zero_or_pos n with h | h
    · exact h
    · obtain ⟨_, h', _⟩ := hr.2 h; cases h'
   subst hn
   have : l = [] := List.eq_nil_of_length_eq_zero hl
   subst this
   exact run_convert_bytes_nil w src e hs he 0 c dst hd
 · rw [run_convert_bytes_string w src dst e _ n c hs he hd]
   have hlc : (loadCells ad n).run P w = .ok ((l.map fun b : UInt8 => (b.toNat : Int)).map (Value.int .u8)).toArray w := by
    have h := run_loadCells_list (P := P) w ad (bcells l) (fun j v hv => by
     have hn : 0 < n := by
      rcases Nat.eq_zero_or_pos n with h | h
      · subst h
        have : l = [] := List.eq_nil_of_length_eq_zero hl
        subst this
        simp [bcells] at hv
      · exact h
     obtain ⟨ad', h', _, hc⟩ := hr.2 hn
     injection h' with h'
     subst h'
     exact hc j v hv)
    rw [bcells_length, hl] at h
    rw [h]
    simp [bcells]
   rw [run_bytesToString w ad n c (l.map fun b : UInt8 => (b.toNat : Int)) hlc, foldl_push_bytes]
   congr 2
   show (⟨#[] ++ _⟩ : ByteArray) = _
   congr 1
   simp [List.map_map, Function.comp_def]
open Go.ChangeShapes Go.WideShapes Go.Deep

section
variable {H : Type} {enc : TypeId × Value → H} {P : Program} {w : World} {base : Nat} {spare : Nat → Bool} {held : Bool}
end
theorem cell_lt {w : World} {a : Addr} {v : Value} (h : w.cell? a = some v) : a.block < w.heap.size := by
 unfold World.cell? at h
 split at h
 · rename_i he
   exact (Array.getElem?_eq_some_iff.1 he).1
 · cases h
open Go.ChangeShapes Go.WideShapes Go.Deep Go.RowKit

section
variable {H : Type} {enc : TypeId × Value → H} {P : Program} {w : World}

def Rd (enc : TypeId × Value → H) (P : Program) (w : World) (t : TypeId) (cs : List Value) : Prop :=
 ∃ fuel x, DataW.trod enc P w 0 (fun _ => true) true fuel t cs = some x ∧ ∀ n ∈ x.1.weights P t, n ≤ reachBytes

variable {t : TypeId} {cs : List Value}

theorem Rd.int {k : IntKind} (h : Rd enc P w t cs) (ht : P.underlying t = some (.int k)) : ∃ z, cs = [.int k z] ∧ (Lit.int k z).wf = true := by
 obtain ⟨fuel, x, hx, _⟩ := h
 obtain ⟨z, h1, _, h2⟩ := DataW.trod_int ht hx
 exact ⟨z, h1, h2⟩

theorem Rd.bool (h : Rd enc P w t cs) (ht : P.underlying t = some .bool) : ∃ b, cs = [.bool b] := by
 obtain ⟨fuel, x, hx, _⟩ := h
 obtain ⟨z, h1, _⟩ := DataW.trod_bool ht hx
 exact ⟨z, h1⟩

theorem Rd.string (h : Rd enc P w t cs) (ht : P.underlying t = some .string) : ∃ s : ByteArray, cs = [.string s] ∧ s.size ≤ reachBytes := by
 obtain ⟨fuel, x, hx, hb⟩ := h
 obtain ⟨s, h1, rfl, _⟩ := DataW.trod_string ht hx
 exact ⟨s, h1, by
  have := hb s.data.toList.length (by simp [DataW.weights])
  simpa using this⟩

theorem Rd.struct {fs : Array Field} (h : Rd enc P w t cs) (ht : P.underlying t = some (.struct fs)) : cs.length = P.cellsOf t ∧ ∀ (j : Nat) (f : Field), fs[j]? = some f → Rd enc P w f.type ((cs.drop f.offset).take (P.cellsOf f.type)) := by
 obtain ⟨fuel, x, hx, hb⟩ := h
 obtain ⟨ys, n, _, rfl, hl, hyl, hf⟩ := DataW.trod_struct ht hx
 refine ⟨hl, fun j f hj => ?_⟩
 have hjl : j < fs.size := (Array.getElem?_eq_some_iff.1 hj).1
 have hy : ys[j]? = some (ys[j]'(by omega)) := List.getElem?_eq_getElem (by omega)
 refine ⟨n, ys[j]'(by omega), (hf j f hj).trans hy, fun m hm => hb m ?_⟩
 simp only [DataW.weights, ht]
 refine DataW.weights_mem_each (j := j) (t := f.type) (d := (ys[j]'(by omega)).1) ?_ ?_ m hm
 · simp [hj]
 · simp [hy]

theorem weightsAll_mem {e : TypeId} {l : List (DataW H)} {d : DataW H} (hd : d ∈ l) {n : Nat} (hn : n ∈ d.weights P e) : n ∈ DataW.weightsAll P e l := by
 induction l with
 | nil => cases hd
 | cons a l ih =>
   simp only [DataW.weightsAll, List.mem_append]
   rcases List.mem_cons.1 hd with rfl | hd
   · exact .inl hn
   · exact .inr (ih hd)

theorem Rd.slice {e : TypeId} (h : Rd enc P w t cs) (ht : P.underlying t = some (.slice e)) : ∃ (A : Option Addr) (n c : Nat), cs = [.slice A n c] ∧ (A = none → n = 0 ∧ c = 0) ∧ n ≤ c ∧ c ≤ maxLen ∧ c * P.bytesOf e ≤ reachBytes ∧
 (0 < n → ∃ ad, A = some ad) ∧ ∀ i ad, i < n → A = some ad → ∃ cs', w.cells? 0 (ad.add (i * P.cellsOf e)) (P.cellsOf e) = some cs' ∧ Rd enc P w e cs' := by
 obtain ⟨fuel, x, hx, hb⟩ := h
 rcases open_slice ht hx with ⟨rfl, rfl⟩ | ⟨a, len, cap, m, n, D, Pl, rfl, _, hl, hm, hmm, rfl, hi⟩
 · exact ⟨none, 0, 0, rfl, fun _ => ⟨rfl, rfl⟩, Nat.le_refl _, Nat.zero_le _, by simp, fun h => absurd h (by omega), fun i ad hi => absurd hi (by omega)⟩
 · refine ⟨some a, len, cap, rfl, fun h => (by cases h), hl, hm, ?_, fun _ => ⟨a, rfl⟩, fun i ad hlt he => ?_⟩
   · simp only [if_true] at hmm
     subst hmm
     have := hb ((len + (m - len)) * P.bytesOf e) (by simp [DataW.weights, ht])
     rwa [show len + (m - len) = m by omega] at this
   · simp only [if_true] at hmm
     injection he with he
     subst he
     obtain ⟨cs', h1, h2⟩ := hi i (by omega)
     refine ⟨cs', h1, n, _, h2, fun k hk => hb k ?_⟩
     simp only [DataW.weights, ht, List.mem_cons, List.mem_append]
     exact .inr (.inl (weightsAll_mem (List.mem_map.2 ⟨i, List.mem_range.2 hlt, rfl⟩) hk))

theorem Rd.rows {e : TypeId} {α : Type} (h : Rd enc P w t cs) (ht : P.underlying t = some (.slice e)) {size : Nat} (hsize : P.cellsOf e = size) (hpos : 0 < size) (f : α → List Value) (R : α → Prop) (hf : ∀ cs', Rd enc P w e cs' → ∃ x, cs' = f x ∧ R x) :
 ∃ (A : Option Addr) (n c : Nat) (L : List α), cs = [.slice A n c] ∧ (A = none → n = 0 ∧ c = 0) ∧ n ≤ c ∧ c ≤ maxLen ∧ c * P.bytesOf e ≤ reachBytes ∧ L.length = n ∧ (∀ x ∈ L, R x) ∧ Reads w w.heap.size size A n (L.flatMap f) := by
 obtain ⟨A, n, c, rfl, h1, h2, h3, h4, h5, h6⟩ := h.slice ht
 rw [hsize] at h6
 rcases Nat.eq_zero_or_pos n with rfl | hn
 · exact ⟨A, 0, c, [], rfl, h1, h2, h3, h4, rfl, fun x hx => (by cases hx), by simpa using Reads.none_⟩
 obtain ⟨ad, rfl⟩ := h5 hn
 have key : ∀ i, i < n → ∃ x, R x ∧ (f x).length = size ∧ ∀ k u, (f x)[k]? = some u → w.cell? (ad.add (i * size + k)) = some u := by
  intro i hi
  obtain ⟨cs', hcs, hrd⟩ := h6 i ad hi rfl
  obtain ⟨_, hl, hat⟩ := World.cells?_some hcs
  obtain ⟨x, rfl, hR⟩ := hf cs' hrd
  refine ⟨x, hR, hl, fun k u hu => ?_⟩
  have hk : k < size := by rw [← hl]; exact (List.getElem?_eq_some_iff.1 hu).1
  rw [← add_of_add, hat k hk, hu]
 have build : ∀ m, m ≤ n → ∃ L : List α, L.length = m ∧ (∀ x ∈ L, R x) ∧ (L.flatMap f).length = m * size ∧ ∀ j u, (L.flatMap f)[j]? = some u → w.cell? (ad.add j) = some u := by
  intro m
  induction m with
  | zero => exact fun _ => ⟨[], rfl, fun x hx => (by cases hx), by simp, fun j u hu => by simp at hu⟩
  | succ m ih =>
    intro hm
    obtain ⟨L, hL, hR, hlen, hc⟩ := ih (by omega)
    obtain ⟨x, hx, hl, hxc⟩ := key m (by omega)
    refine ⟨L ++ [x], by simp [hL], ?_, by simp [List.flatMap_append, hlen, hl, Nat.succ_mul], fun j u hu => ?_⟩
    · intro y hy
      rcases List.mem_append.1 hy with hy | hy
      · exact hR y hy
      · rw [List.mem_singleton.1 hy]; exact hx
    · rw [List.flatMap_append] at hu
      rcases Nat.lt_or_ge j (m * size) with hj | hj
      · rw [List.getElem?_append_left (by omega)] at hu
        exact hc j u hu
      · rw [List.getElem?_append_right (by omega), hlen] at hu
        have := hxc (j - m * size) u (by simpa using hu)
        rwa [show m * size + (j - m * size) = j by omega] at this
 obtain ⟨L, hL, hR, hlen, hc⟩ := build n (Nat.le_refl _)
 refine ⟨some ad, n, c, L, rfl, h1, h2, h3, h4, hL, hR, hlen, fun _ => ⟨ad, rfl, ?_, hc⟩⟩
 have hp : 0 < (L.flatMap f).length := by rw [hlen]; exact Nat.mul_pos hn hpos
 have hlt := cell_lt (hc 0 _ (List.getElem?_eq_getElem hp))
 rwa [block_of_add] at hlt

theorem bcells_flat (l : List UInt8) : l.flatMap (fun b : UInt8 => [Value.int .u8 (b.toNat : Int)]) = bcells l := by
 induction l with
 | nil => rfl
 | cons b l ih => rw [List.flatMap_cons, ih]; rfl

theorem Rd.bytes {e : TypeId} (h : Rd enc P w t cs) (ht : P.underlying t = some (.slice e)) (he : P.underlying e = some (.int .u8)) (hsize : P.cellsOf e = 1) (hby : P.bytesOf e = 1) :
 ∃ (A : Option Addr) (n c : Nat) (l : List UInt8), cs = [.slice A n c] ∧ (A = none → n = 0 ∧ c = 0) ∧ n ≤ c ∧ c ≤ reachBytes ∧ l.length = n ∧ Reads w w.heap.size 1 A n (bcells l) := by
 obtain ⟨A, n, c, l, h1, h2, h3, h4, h5, h6, _, h8⟩ := h.rows ht hsize (by decide) (fun b : UInt8 => [.int .u8 (b.toNat : Int)]) (fun _ => True) (fun cs' hr => by
  obtain ⟨z, rfl, hz⟩ := hr.int he
  have hb := bounds_u8 hz
  refine ⟨UInt8.ofNat z.toNat, ?_, trivial⟩
  have : (UInt8.ofNat z.toNat).toNat = z.toNat := by
   rw [UInt8.toNat_ofNat']
   omega
  rw [this]
  have h : (z.toNat : Int) = z := Int.toNat_of_nonneg hb.1
  rw [h])
 rw [hby, Nat.mul_one] at h5
 refine ⟨A, n, c, l, h1, h2, h3, h5, h6, ?_⟩
 rwa [bcells_flat] at h8
end

structure Past (w0 : World) where
 val : World
 prop : Below w0.heap.size w0 val
instance (w0 : World) : Nonempty (Past w0) := ⟨⟨w0, Below.refl _ _⟩⟩
section
variable {P : Program} {w0 : World}
end

section
variable {P : Program} {ops : Array Oper} {md : Region.Mode} {C : World → Prop}

theorem step_call {ops : Array Oper} {o : Oper} {a : Act} {w : World} {K : Act → World → Prop} {Q : Exit → Act → World → Prop} {E : Prop} (hw : Region.wanted o (yielded ops a.tmps) = true)
 (f : FuncId) (xs : Array Operand) (ats : Array TypeId) (ho : o.op = .call { callee := .value (.func f), args := xs, argTypes := ats }) (args : Array Value) (hx0 : xs.toList.map a.eval = args.toList)
 {fn : Func} (hf : P.funcs[f]? = some fn) (hn : (fn.name == "runtime.NumGoroutine") = false) (hb : fn.body.isNone = false) {R : Ending → World → Prop} (hc : Calls P f args w R) (hk : ∀ e w', R e w' → ∃ v, e = .returned v ∧ K (a.put o.dst v) w') :
 if Region.wanted o (yielded ops a.tmps) = true then Oper.wp P o a w K Q else E := by
 rw [if_pos hw]
 have hx : #[] ++ xs.map a.eval ++ #[] = args := by
  apply Array.ext'
  simpa using hx0
 unfold Oper.wp
 obtain ⟨dst, op, ty, pos, after, guard⟩ := o
 dsimp only at ho
 subst ho
 have hrun : (callFunc f args).run P w = .ok (.enter f args) w := by
  have hn' : ¬ fn.name = "runtime.NumGoroutine" := by simpa using hn
  have hb' : ¬ fn.body = none := by
   intro h
   rw [h] at hb
   cases hb
  simp [callFunc, hf, hn', hb']
 rw [execOp_call_go, hx, hrun]
 exact hc.mono fun e w' h => by
  obtain ⟨v, rfl, hK⟩ := hk e w' h
  exact hK
end
theorem Hi {p : Prop} (h : p) : Hid p := Lib.hid h
theorem zT {b : Nat} {w : World} : Below b w w := Below.refl _ _
theorem zR {n : Nat} : n ≤ n := Nat.le_refl _
theorem xv (e : Value) : ∃ x : Value, Hid (x = e) := ⟨_, rfl⟩
theorem zV {w w' : World} {x} (h : w.alloc x = w') : Below w.heap.size w w' := by subst h; exact (Below.refl _ _).alloc (Nat.le_refl _) _
theorem zW {w w' : World} {t : TypeId} {cs : Array Value} (h : w.alloc (.cells cs t) = w') : Blk w' w.heap.size t cs := by subst h; exact Blk.new _ _ _
theorem xa (w : World) (cs : Array Value) (t : TypeId) : ∃ x, w.alloc (.cells cs t) = x := ⟨_, rfl⟩
def zA := @List.set_cons_zero
def zB := @List.set_cons_succ
def zD := @List.setIfInBounds_toArray
def zG := @List.length_append
def zH := @List.mem_cons
def zI := @List.not_mem_nil
def zJ := @List.length_singleton
def zK := @List.length_nil
def zL := @List.append_assoc
def zM := @List.length_cons
def zN := @Go.WideShapes.add_plain
def zO := @List.size_toArray
def zP := @Array.getD_eq_getD_getElem?
def zQ := @Array.all_eq_true_iff_forall_mem
def zU0 := Tryd.underlying0
def zU2 := Tryd.underlying2
def zU3 := Tryd.underlying3
def zU4 := Tryd.underlying4
def zU5 := Tryd.underlying5
def zU9 := Tryd.underlying9
def zU12 := Tryd.underlying12
def zU21 := Tryd.underlying21
def zU22 := Tryd.underlying22
def zU23 := Tryd.underlying23
def zU24 := Tryd.underlying24
def zU25 := Tryd.underlying25
def zU26 := Tryd.underlying26
def zU27 := Tryd.underlying27
def zU29 := Tryd.underlying29
def zU31 := Tryd.underlying31
def zU61 := Tryd.underlying61
def zU72 := Tryd.underlying72
def zU74 := Tryd.underlying74
def zU80 := Tryd.underlying80
def zU102 := Tryd.underlying102
def zU133 := Tryd.underlying133
def zU135 := Tryd.underlying135
def zU136 := Tryd.underlying136
end
section
open Go.ChangeShapes Go.WideShapes Go.Deep Go.RowKit

section
variable {H : Type} {enc : TypeId × Value → H} {P : Program} {w : World} {t : TypeId} {cs : List Value} {d : DataW H}
def RdD (enc : TypeId × Value → H) (P : Program) (w : World) (t : TypeId) (cs : List Value) (d : DataW H) : Prop :=
 ∃ fuel pl, DataW.trod enc P w 0 (fun _ => true) true fuel t cs = some (d, pl) ∧ ∀ n ∈ d.weights P t, n ≤ reachBytes
theorem RdD.rd (h : RdD enc P w t cs d) : Rd enc P w t cs := by
 obtain ⟨fuel, pl, h1, h2⟩ := h
 exact ⟨fuel, (d, pl), h1, h2⟩
theorem Rd.datum (h : Rd enc P w t cs) : ∃ d, RdD enc P w t cs d := by
 obtain ⟨fuel, x, h1, h2⟩ := h
 exact ⟨x.1, fuel, x.2, h1, h2⟩
theorem RdD.struct {fs : Array Field} (h : RdD enc P w t cs d) (ht : P.underlying t = some (.struct fs)) : cs.length = P.cellsOf t ∧ ∀ (j : Nat) (f : Field), fs[j]? = some f → ∃ d' : DataW H, SizeOf.sizeOf d' < SizeOf.sizeOf d ∧ RdD enc P w f.type ((cs.drop f.offset).take (P.cellsOf f.type)) d' := by
 obtain ⟨fuel, pl, hx, hb⟩ := h
 obtain ⟨ys, n, _, hxy, hl, hyl, hf⟩ := DataW.trod_struct ht hx
 injection hxy with hd hpl
 subst hd
 refine ⟨hl, fun j f hj => ?_⟩
 have hjl : j < fs.size := (Array.getElem?_eq_some_iff.1 hj).1
 have hy : ys[j]? = some (ys[j]'(by omega)) := List.getElem?_eq_getElem (by omega)
 refine ⟨(ys[j]'(by omega)).1, ?_, n, (ys[j]'(by omega)).2, (hf j f hj).trans hy, fun m hm => hb m ?_⟩
 · have hm : (ys[j]'(by omega)).1 ∈ ys.map (·.1) := List.mem_map.2 ⟨_, List.getElem_mem _, rfl⟩
   have := List.sizeOf_lt_of_mem hm
   simp only [DataW.agg.sizeOf_spec]
   omega
 · simp only [DataW.weights, ht]
   refine DataW.weights_mem_each (j := j) (t := f.type) (d := (ys[j]'(by omega)).1) ?_ ?_ m hm
   · simp [hj]
   · simp [hy]
theorem RdD.slice {e : TypeId} (h : RdD enc P w t cs d) (ht : P.underlying t = some (.slice e)) : ∃ (A : Option Addr) (n c : Nat), cs = [.slice A n c] ∧ (A = none → n = 0 ∧ c = 0) ∧ n ≤ c ∧ c ≤ maxLen ∧ c * P.bytesOf e ≤ reachBytes ∧
 (0 < n → ∃ ad, A = some ad) ∧ ∀ i ad, i < n → A = some ad → ∃ (cs' : List Value) (d' : DataW H), w.cells? 0 (ad.add (i * P.cellsOf e)) (P.cellsOf e) = some cs' ∧ RdD enc P w e cs' d' ∧ SizeOf.sizeOf d' < SizeOf.sizeOf d := by
 obtain ⟨fuel, pl, hx, hb⟩ := h
 rcases open_slice ht hx with ⟨rfl, h0⟩ | ⟨a, len, cap, m, n, D, Pl, rfl, _, hl, hm, hmm, hxy, hi⟩
 · exact ⟨none, 0, 0, rfl, fun _ => ⟨rfl, rfl⟩, Nat.le_refl _, Nat.zero_le _, by simp, fun h => absurd h (by omega), fun i ad hi => absurd hi (by omega)⟩
 · injection hxy with hd hpl
   subst hd
   refine ⟨some a, len, cap, rfl, fun h => (by cases h), hl, hm, ?_, fun _ => ⟨a, rfl⟩, fun i ad hlt he => ?_⟩
   · simp only [if_true] at hmm
     subst hmm
     have := hb ((len + (m - len)) * P.bytesOf e) (by simp [DataW.weights, ht])
     rwa [show len + (m - len) = m by omega] at this
   · simp only [if_true] at hmm
     injection he with he
     subst he
     obtain ⟨cs', h1, h2⟩ := hi i (by omega)
     have hmem : D i ∈ (List.range len).map D := List.mem_map.2 ⟨i, List.mem_range.2 hlt, rfl⟩
     refine ⟨cs', D i, h1, ⟨n, _, h2, fun k hk => hb k ?_⟩, ?_⟩
     · simp only [DataW.weights, ht, zH, List.mem_append]
       exact .inr (.inl (weightsAll_mem hmem hk))
     · have := List.sizeOf_lt_of_mem hmem
       simp only [DataW.slice.sizeOf_spec]
       omega
theorem RdD.rows {e : TypeId} {α : Type} (h : RdD enc P w t cs d) (ht : P.underlying t = some (.slice e)) {size : Nat} (hsize : P.cellsOf e = size) (hpos : 0 < size) (f : α → List Value) (R : α → Prop) (hf : ∀ (cs' : List Value) (d' : DataW H), RdD enc P w e cs' d' → SizeOf.sizeOf d' < SizeOf.sizeOf d → ∃ x, cs' = f x ∧ R x) :
 ∃ (A : Option Addr) (n c : Nat) (L : List α), cs = [.slice A n c] ∧ (A = none → n = 0 ∧ c = 0) ∧ n ≤ c ∧ c ≤ maxLen ∧ c * P.bytesOf e ≤ reachBytes ∧ L.length = n ∧ (∀ x ∈ L, R x) ∧ Reads w w.heap.size size A n (L.flatMap f) := by
 obtain ⟨A, n, c, rfl, h1, h2, h3, h4, h5, h6⟩ := h.slice ht
 rw [hsize] at h6
 rcases Nat.eq_zero_or_pos n with rfl | hn
 · exact ⟨A, 0, c, [], rfl, h1, h2, h3, h4, rfl, fun x hx => (by cases hx), by simpa using Reads.none_⟩
 obtain ⟨ad, rfl⟩ := h5 hn
 have key : ∀ i, i < n → ∃ x, R x ∧ (f x).length = size ∧ ∀ k u, (f x)[k]? = some u → w.cell? (ad.add (i * size + k)) = some u := by
  intro i hi
  obtain ⟨cs', d', hcs, hrd, hsz⟩ := h6 i ad hi rfl
  obtain ⟨_, hl, hat⟩ := World.cells?_some hcs
  obtain ⟨x, rfl, hR⟩ := hf cs' d' hrd hsz
  refine ⟨x, hR, hl, fun k u hu => ?_⟩
  have hk : k < size := by rw [← hl]; exact (List.getElem?_eq_some_iff.1 hu).1
  rw [← add_of_add, hat k hk, hu]
 have build : ∀ m, m ≤ n → ∃ L : List α, L.length = m ∧ (∀ x ∈ L, R x) ∧ (L.flatMap f).length = m * size ∧ ∀ j u, (L.flatMap f)[j]? = some u → w.cell? (ad.add j) = some u := by
  intro m
  induction m with
  | zero => exact fun _ => ⟨[], rfl, fun x hx => (by cases hx), by simp, fun j u hu => by simp at hu⟩
  | succ m ih =>
    intro hm
    obtain ⟨L, hL, hR, hlen, hc⟩ := ih (by omega)
    obtain ⟨x, hx, hl, hxc⟩ := key m (by omega)
    refine ⟨L ++ [x], by simp [hL], ?_, by simp [List.flatMap_append, hlen, hl, Nat.succ_mul], fun j u hu => ?_⟩
    · intro y hy
      rcases List.mem_append.1 hy with hy | hy
      · exact hR y hy
      · rw [List.mem_singleton.1 hy]; exact hx
    · rw [List.flatMap_append] at hu
      rcases Nat.lt_or_ge j (m * size) with hj | hj
      · rw [List.getElem?_append_left (by omega)] at hu
        exact hc j u hu
      · rw [List.getElem?_append_right (by omega), hlen] at hu
        have := hxc (j - m * size) u (by simpa using hu)
        rwa [show m * size + (j - m * size) = j by omega] at this
 obtain ⟨L, hL, hR, hlen, hc⟩ := build n zR
 refine ⟨some ad, n, c, L, rfl, h1, h2, h3, h4, hL, hR, hlen, fun _ => ⟨ad, rfl, ?_, hc⟩⟩
 have hp : 0 < (L.flatMap f).length := by rw [hlen]; exact Nat.mul_pos hn hpos
 have hlt := cell_lt (hc 0 _ (List.getElem?_eq_getElem hp))
 rwa [block_of_add] at hlt
theorem RdD.array {n : Nat} {e : TypeId} (h : RdD enc P w t cs d) (ht : P.underlying t = some (.array n e)) : cs.length = P.cellsOf t ∧ ∀ i, i < n → Rd enc P w e ((cs.drop (i * P.cellsOf e)).take (P.cellsOf e)) := by
 obtain ⟨fuel, pl, hx, hb⟩ := h
 obtain ⟨ys, m, _, hxy, hl, hyl, hf⟩ := DataW.trod_array ht hx
 injection hxy with hd hpl
 subst hd
 refine ⟨hl, fun i hi => ?_⟩
 have hy : ys[i]? = some (ys[i]'(by omega)) := List.getElem?_eq_getElem (by omega)
 refine ⟨m, ys[i]'(by omega), (hf i hi).trans hy, fun k hk => hb k ?_⟩
 have hm : (ys[i]'(by omega)).1 ∈ ys.map (·.1) := List.mem_map.2 ⟨_, List.getElem_mem _, rfl⟩
 simp only [DataW.weights, ht]
 exact weightsAll_mem hm hk
end
open Go.ChangeShapes Go.WideShapes Go.Deep Go.RowKit

section
variable {H : Type} {enc : TypeId × Value → H} {P : Program} {w : World} {t : TypeId} {cs : List Value} {d : DataW H}
theorem bulk_one (d : DataW H) : 1 ≤ Rows.uptoBulk d := by
 cases d with
 | lit l => cases l <;> simp [Rows.uptoBulk]
 | nil => simp [Rows.uptoBulk]
 | ptr d => simp [Rows.uptoBulk]
 | slice elems spare => simp [Rows.uptoBulk]
 | agg parts => simp [Rows.uptoBulk]
 | iface t d => simp [Rows.uptoBulk]
 | map entries => simp [Rows.uptoBulk]
 | held h => simp [Rows.uptoBulk]
theorem bulkAll_map (l : List Nat) (D : Nat → DataW H) : Rows.uptoBulkAll (l.map D) = (l.map fun i => Rows.uptoBulk (D i)).sum := by
 induction l with
 | nil => rfl
 | cons a l ih => simp only [List.map_cons, Rows.uptoBulkAll, List.sum_cons, ih]
theorem RdD.structU {fs : Array Field} (h : RdD enc P w t cs d) (ht : P.underlying t = some (.struct fs)) :
 cs.length = P.cellsOf t ∧ ∃ ds : List (DataW H), ds.length = fs.size ∧ Rows.uptoBulkAll ds + 1 ≤ Rows.uptoBulk d ∧ ∀ (j : Nat) (f : Field) (d' : DataW H), fs[j]? = some f → ds[j]? = some d' → SizeOf.sizeOf d' < SizeOf.sizeOf d ∧ RdD enc P w f.type ((cs.drop f.offset).take (P.cellsOf f.type)) d' := by
 obtain ⟨fuel, pl, hx, hb⟩ := h
 obtain ⟨ys, n, _, hxy, hl, hyl, hf⟩ := DataW.trod_struct ht hx
 injection hxy with hd hpl
 subst hd
 refine ⟨hl, ys.map (·.1), by rw [List.length_map, hyl], by simp [Rows.uptoBulk], fun j f d' hj hdj => ?_⟩
 have hjl : j < fs.size := (Array.getElem?_eq_some_iff.1 hj).1
 have hy : ys[j]? = some (ys[j]'(by omega)) := List.getElem?_eq_getElem (by omega)
 obtain rfl : (ys[j]'(by omega)).1 = d' := by
  rw [List.getElem?_map, hy] at hdj
  simpa using hdj
 refine ⟨?_, n, (ys[j]'(by omega)).2, (hf j f hj).trans hy, fun m hm => hb m ?_⟩
 · have hm : (ys[j]'(by omega)).1 ∈ ys.map (·.1) := List.mem_map.2 ⟨_, List.getElem_mem _, rfl⟩
   have := List.sizeOf_lt_of_mem hm
   simp only [DataW.agg.sizeOf_spec]
   omega
 · simp only [DataW.weights, ht]
   refine DataW.weights_mem_each (j := j) (t := f.type) (d := (ys[j]'(by omega)).1) ?_ ?_ m hm
   · simp [hj]
   · simp [hy]
theorem RdD.stringU (h : RdD enc P w t cs d) (ht : P.underlying t = some .string) : ∃ s : ByteArray, cs = [.string s] ∧ s.size ≤ reachBytes ∧ s.size + 1 ≤ Rows.uptoBulk d := by
 obtain ⟨fuel, pl, hx, hb⟩ := h
 obtain ⟨s, h1, h2, _⟩ := DataW.trod_string ht hx
 injection h2 with h2 h3
 subst h2
 have e : s.size = s.data.toList.length := by cases s; simp [ByteArray.size]
 refine ⟨s, h1, ?_, ?_⟩
 · have := hb s.data.toList.length (by simp [DataW.weights])
   omega
 · simp only [Rows.uptoBulk]
   omega
theorem RdD.rowsU {e : TypeId} {α : Type} (h : RdD enc P w t cs d) (ht : P.underlying t = some (.slice e)) {size : Nat} (hsize : P.cellsOf e = size) (hpos : 0 < size) (f : α → List Value) (R : α → Prop) (μ : α → Nat)
 (hf : ∀ (cs' : List Value) (d' : DataW H), RdD enc P w e cs' d' → SizeOf.sizeOf d' < SizeOf.sizeOf d → ∃ x, cs' = f x ∧ R x ∧ μ x ≤ Rows.uptoBulk d') :
 ∃ (A : Option Addr) (n c : Nat) (L : List α), cs = [.slice A n c] ∧ (A = none → n = 0 ∧ c = 0) ∧ n ≤ c ∧ c ≤ maxLen ∧ c * P.bytesOf e ≤ reachBytes ∧ L.length = n ∧ (∀ x ∈ L, R x) ∧ Reads w w.heap.size size A n (L.flatMap f) ∧ (L.map μ).sum + 1 ≤ Rows.uptoBulk d := by
 obtain ⟨fuel, pl, hx, hb⟩ := h
 rcases open_slice ht hx with ⟨rfl, h0⟩ | ⟨a, len, cap, m, k, D, Pl, rfl, _, hl, hm, hmm, hxy, hi⟩
 · refine ⟨none, 0, 0, [], rfl, fun _ => ⟨rfl, rfl⟩, Nat.le_refl _, Nat.zero_le _, by simp, rfl, fun x hx => (by cases hx), by simpa using Reads.none_, ?_⟩
   injection h0 with hd hp
   subst hd
   simp [Rows.uptoBulk]
 · injection hxy with hd hpl
   subst hd
   simp only [if_true] at hmm
   subst hmm
   have hcap := hb ((len + (m - len)) * P.bytesOf e) (by simp [DataW.weights, ht])
   rw [show len + (m - len) = m by omega] at hcap
   rw [hsize] at hi
   have key : ∀ i, i < len → ∃ x, R x ∧ (f x).length = size ∧ (∀ k u, (f x)[k]? = some u → w.cell? (a.add (i * size + k)) = some u) ∧ μ x ≤ Rows.uptoBulk (D i) := by
    intro i hil
    obtain ⟨cs', hcs, htr⟩ := hi i (by omega)
    obtain ⟨_, hl', hat⟩ := World.cells?_some hcs
    have hmem : D i ∈ (List.range len).map D := List.mem_map.2 ⟨i, List.mem_range.2 hil, rfl⟩
    have hrd : RdD enc P w e cs' (D i) := ⟨k, _, htr, fun q hq => hb q (by
     simp only [DataW.weights, ht, zH, List.mem_append]
     exact .inr (.inl (weightsAll_mem hmem hq)))⟩
    have hsz : SizeOf.sizeOf (D i) < SizeOf.sizeOf (DataW.slice ((List.range len).map D) ((List.range (m - len)).map fun j => D (len + j))) := by
     have := List.sizeOf_lt_of_mem hmem
     simp only [DataW.slice.sizeOf_spec]
     omega
    obtain ⟨x, rfl, hR, hμ⟩ := hf cs' _ hrd hsz
    refine ⟨x, hR, hl', fun q u hu => ?_, hμ⟩
    have hk' : q < size := by rw [← hl']; exact (List.getElem?_eq_some_iff.1 hu).1
    rw [← add_of_add, hat q hk', hu]
   have build : ∀ q, q ≤ len → ∃ L : List α, L.length = q ∧ (∀ x ∈ L, R x) ∧ (L.flatMap f).length = q * size ∧ (∀ j u, (L.flatMap f)[j]? = some u → w.cell? (a.add j) = some u) ∧ (L.map μ).sum ≤ ((List.range q).map fun i => Rows.uptoBulk (D i)).sum := by
    intro q
    induction q with
    | zero => exact fun _ => ⟨[], rfl, fun x hx => (by cases hx), by simp, fun j u hu => by simp at hu, by simp⟩
    | succ q ih =>
      intro hq
      obtain ⟨L, hL, hR, hlen, hc, hs⟩ := ih (by omega)
      obtain ⟨x, hx, hl', hxc, hμ⟩ := key q (by omega)
      refine ⟨L ++ [x], by simp [hL], ?_, by simp [List.flatMap_append, hlen, hl', Nat.succ_mul], fun j u hu => ?_, ?_⟩
      · intro y hy
        rcases List.mem_append.1 hy with hy | hy
        · exact hR y hy
        · rw [List.mem_singleton.1 hy]; exact hx
      · rw [List.flatMap_append] at hu
        rcases Nat.lt_or_ge j (q * size) with hj | hj
        · rw [List.getElem?_append_left (by omega)] at hu
          exact hc j u hu
        · rw [List.getElem?_append_right (by omega), hlen] at hu
          have := hxc (j - q * size) u (by simpa using hu)
          rwa [show q * size + (j - q * size) = j by omega] at this
      · rw [List.range_succ, List.map_append, List.map_append, List.sum_append, List.sum_append]
        simp
        omega
   obtain ⟨L, hL, hR, hlen, hc, hs⟩ := build len zR
   refine ⟨some a, len, m, L, rfl, fun h => (by cases h), hl, hm, hcap, hL, hR, ⟨hlen, fun hn => ⟨a, rfl, ?_, hc⟩⟩, ?_⟩
   · have hp : 0 < (L.flatMap f).length := by rw [hlen]; exact Nat.mul_pos hn hpos
     have hlt := cell_lt (hc 0 _ (List.getElem?_eq_getElem hp))
     rwa [block_of_add] at hlt
   · simp only [Rows.uptoBulk]
     rw [bulkAll_map]
     omega
theorem RdD.arrayU {n : Nat} {e : TypeId} (h : RdD enc P w t cs d) (ht : P.underlying t = some (.array n e)) :
 cs.length = P.cellsOf t ∧ ∃ ds : List (DataW H), ds.length = n ∧ Rows.uptoBulkAll ds + 1 ≤ Rows.uptoBulk d ∧ ∀ i (d' : DataW H), i < n → ds[i]? = some d' → RdD enc P w e ((cs.drop (i * P.cellsOf e)).take (P.cellsOf e)) d' := by
 obtain ⟨fuel, pl, hx, hb⟩ := h
 obtain ⟨ys, m, _, hxy, hl, hyl, hf⟩ := DataW.trod_array ht hx
 injection hxy with hd hpl
 subst hd
 refine ⟨hl, ys.map (·.1), by rw [List.length_map, hyl], by simp [Rows.uptoBulk], fun i d' hi hdi => ?_⟩
 have hy : ys[i]? = some (ys[i]'(by omega)) := List.getElem?_eq_getElem (by omega)
 obtain rfl : (ys[i]'(by omega)).1 = d' := by
  rw [List.getElem?_map, hy] at hdi
  simpa using hdi
 refine ⟨m, (ys[i]'(by omega)).2, (hf i hi).trans hy, fun k hk => hb k ?_⟩
 have hm : (ys[i]'(by omega)).1 ∈ ys.map (·.1) := List.mem_map.2 ⟨_, List.getElem_mem _, rfl⟩
 simp only [DataW.weights, ht]
 exact weightsAll_mem hm hk
theorem RdD.bytesU {e : TypeId} (h : RdD enc P w t cs d) (ht : P.underlying t = some (.slice e)) (he : P.underlying e = some (.int .u8)) (hsize : P.cellsOf e = 1) (hby : P.bytesOf e = 1) :
 ∃ (A : Option Addr) (n c : Nat) (l : List UInt8), cs = [.slice A n c] ∧ (A = none → n = 0 ∧ c = 0) ∧ n ≤ c ∧ c ≤ reachBytes ∧ l.length = n ∧ Reads w w.heap.size 1 A n (bcells l) ∧ n + 1 ≤ Rows.uptoBulk d := by
 obtain ⟨A, n, c, l, h1, h2, h3, h4, h5, h6, _, h8, h9⟩ := h.rowsU ht hsize (by decide) (fun b : UInt8 => [.int .u8 (b.toNat : Int)]) (fun _ => True) (fun _ => 1) (fun cs' d' hr _ => by
  obtain ⟨z, rfl, hz⟩ := hr.rd.int he
  have hb := bounds_u8 hz
  refine ⟨UInt8.ofNat z.toNat, ?_, trivial, bulk_one d'⟩
  have : (UInt8.ofNat z.toNat).toNat = z.toNat := by
   rw [UInt8.toNat_ofNat']
   omega
  rw [this]
  have h : (z.toNat : Int) = z := Int.toNat_of_nonneg hb.1
  rw [h])
 rw [hby, Nat.mul_one] at h5
 have h9' : (l.map fun _ => 1).sum = l.length := by
  clear h1 h2 h3 h4 h5 h6 h8 h9
  induction l with
  | nil => rfl
  | cons a l ih => simp [ih]; omega
 rw [h9'] at h9
 refine ⟨A, n, c, l, h1, h2, h3, h5, h6, ?_, by omega⟩
 rwa [bcells_flat] at h8
end

abbrev AclT := Int × ByteArray × ByteArray
def aclCells (L : List (Int × ByteArray × ByteArray)) : List Value := L.flatMap fun a => [.int .i32 a.1, .string a.2.1, .string a.2.2]
theorem aclCells_cons (a : Int × ByteArray × ByteArray) (L : List (Int × ByteArray × ByteArray)) : aclCells (a :: L) = .int .i32 a.1 :: .string a.2.1 :: .string a.2.2 :: aclCells L := by simp [aclCells]
theorem aclCells_length (L : List (Int × ByteArray × ByteArray)) : (aclCells L).length = L.length * 3 := by
 induction L with
 | nil => rfl
 | cons a L ih => rw [aclCells_cons]; simp only [zM, ih]; omega
theorem aclCells_get (L : List (Int × ByteArray × ByteArray)) (k : Nat) (h : k < L.length) :
 (aclCells L)[k * 3]? = some (.int .i32 L[k].1) ∧ (aclCells L)[k * 3 + 1]? = some (.string L[k].2.1) ∧ (aclCells L)[k * 3 + 2]? = some (.string L[k].2.2) := by
 induction L generalizing k with
 | nil => simp at h
 | cons a L ih =>
   rw [aclCells_cons]
   cases k with
   | zero => simp
   | succ k =>
     have h' : k < L.length := by simpa using h
     have := ih k h'
     have e1 : (k + 1) * 3 = k * 3 + 1 + 1 + 1 := by omega
     rw [e1]
     simpa using this
open Go.ChangeShapes Go.WideShapes Go.ChangeAt Go.RowKit

structure Sl where
 (A : Option Addr)
 (n c : Nat)
def Sl.v (s : Sl) : Value := .slice s.A s.n s.c
structure OpF where
 (t : Int) (p : ByteArray) (l : List UInt8) (L : List AclT) (fl ve : Int) (wa : Bool) (ct by_ tl zx : Int)
 (K0 K1 K2 K3 K4 : List ByteArray) (to : Int) (I : List (ByteArray × ByteArray))
inductive OpC where
 | mk (f : OpF) (S : List OpC)
def OpC.f : OpC → OpF
 | .mk f _ => f
def OpC.S : OpC → List OpC
 | .mk _ S => S
def strCells (L : List ByteArray) : List Value := L.flatMap fun s => [.string s]
def idCells (I : List (ByteArray × ByteArray)) : List Value := I.flatMap fun x => [.string x.1, .string x.2]
def OpF.row (f : OpF) (d a k0 k1 k2 k3 k4 i s : Sl) : List Value := [.int .i32 f.t, .string f.p, d.v, a.v, .int .i32 f.fl, .int .i32 f.ve, .bool f.wa, .int .i64 f.ct, .int .i64 f.by_, .int .i64 f.tl, .int .i64 f.zx, k0.v, k1.v, k2.v, k3.v, k4.v, .int .i32 f.to, i.v, s.v]
theorem OpF.row_len (f : OpF) (d a k0 k1 k2 k3 k4 i s : Sl) : (f.row d a k0 k1 k2 k3 k4 i s).length = 19 := rfl
structure SlAt (w : World) (lo : Option Nat) (e : TypeId) (size bytes : Nat) (s : Sl) (len : Nat) (xs : List Value) : Prop where
 nil : s.A = none → s.n = 0 ∧ s.c = 0
 le : s.n ≤ s.c
 cap : s.c ≤ maxLen
 reach : s.n * bytes ≤ reachBytes
 len : len = s.n
 reads : Reads w w.heap.size size s.A s.n xs
 own : ∀ b, lo = some b → w.ownsRow b e size s.v s.n xs
theorem own_below {w w' : World} {b : Nat} {e : TypeId} {size n : Nat} {v : Value} {xs : List Value} (h : w.ownsRow b e size v n xs) (hb : Below w.heap.size w w') : w'.ownsRow b e size v n xs := by
 obtain ⟨h1, h2⟩ := h
 refine ⟨h1, ?_⟩
 rcases h2 with h2 | ⟨g, cap, cur, e1, e2, e3, e4⟩
 · exact .inl h2
 · refine .inr ⟨g, cap, cur, e1, e2, ?_, e4⟩
   have hlt : g < w.heap.size := by
    rcases Nat.lt_or_ge g w.heap.size with hlt | hge
    · exact hlt
    · rw [Array.getElem?_eq_none hge] at e3; cases e3
   exact (hb.block g hlt).trans e3
theorem SlAt.later {w w' : World} {lo : Option Nat} {e : TypeId} {size bytes len : Nat} {s : Sl} {xs : List Value} (h : SlAt w lo e size bytes s len xs) (hb : Below w.heap.size w w') : SlAt w' lo e size bytes s len xs :=
 ⟨h.nil, h.le, h.cap, h.reach, h.len, (h.reads.below hb).more hb.size, fun b hl => own_below (h.own b hl) hb⟩
theorem SlAt.any {w : World} {lo : Option Nat} {e : TypeId} {size bytes len : Nat} {s : Sl} {xs : List Value} (h : SlAt w lo e size bytes s len xs) : SlAt w none e size bytes s len xs :=
 ⟨h.nil, h.le, h.cap, h.reach, h.len, h.reads, fun _ hl => by cases hl⟩
theorem SlAt.of_own {w : World} {b : Nat} {e : TypeId} {size bytes n c : Nat} {A : Option Addr} {xs : List Value} (h : w.ownsRow b e size (.slice A n c) n xs) (hr : n * bytes ≤ reachBytes) : SlAt w (some b) e size bytes ⟨A, n, c⟩ n xs := by
 refine ⟨fun e => own_nil h e, ?_, ?_, hr, rfl, Reads.of_own h, fun b' hl => by injection hl with hl; subst hl; exact h⟩
 · rcases h.2 with ⟨h1, h2⟩ | ⟨g, cap, cur, e1, e2, e3, e4, e5, e6⟩
   · injection h1 with _ _ h3
     subst h2 h3
     exact Nat.le_refl _
   · injection e1 with _ _ e1
     subst e1
     exact e4
 · rcases h.2 with ⟨h1, h2⟩ | ⟨g, cap, cur, e1, e2, e3, e4, e5, e6⟩
   · injection h1 with _ _ h3
     subst h3
     exact Nat.zero_le _
   · injection e1 with _ _ e1
     subst e1
     exact e5
structure OpF.Ok (f : OpF) : Prop where
 t : (Lit.int .i32 f.t).wf = true
 fl : (Lit.int .i32 f.fl).wf = true
 ve : (Lit.int .i32 f.ve).wf = true
 ct : (Lit.int .i64 f.ct).wf = true
 by_ : (Lit.int .i64 f.by_).wf = true
 tl : (Lit.int .i64 f.tl).wf = true
 zx : (Lit.int .i64 f.zx).wf = true
 to : (Lit.int .i32 f.to).wf = true
 p : f.p.size ≤ reachBytes
 acl : ∀ x ∈ f.L, (Lit.int .i32 x.1).wf = true ∧ x.2.1.size ≤ reachBytes ∧ x.2.2.size ≤ reachBytes
 ids : ∀ x ∈ f.I, x.1.size ≤ reachBytes ∧ x.2.size ≤ reachBytes
 k0 : ∀ x ∈ f.K0, x.size ≤ reachBytes
 k1 : ∀ x ∈ f.K1, x.size ≤ reachBytes
 k2 : ∀ x ∈ f.K2, x.size ≤ reachBytes
 k3 : ∀ x ∈ f.K3, x.size ≤ reachBytes
 k4 : ∀ x ∈ f.K4, x.size ≤ reachBytes
inductive At (w : World) (lo : Option Nat) : OpC → List Value → Prop
 | mk (f : OpF) (d a k0 k1 k2 k3 k4 i s : Sl) (Q : List (OpC × List Value)) (ok : f.Ok)
    (hd : SlAt w lo 5 1 1 d f.l.length (bcells f.l)) (ha : SlAt w lo 74 3 40 a f.L.length (aclCells f.L))
    (hk0 : SlAt w lo 9 1 16 k0 f.K0.length (strCells f.K0)) (hk1 : SlAt w lo 9 1 16 k1 f.K1.length (strCells f.K1)) (hk2 : SlAt w lo 9 1 16 k2 f.K2.length (strCells f.K2))
    (hk3 : SlAt w lo 9 1 16 k3 f.K3.length (strCells f.K3)) (hk4 : SlAt w lo 9 1 16 k4 f.K4.length (strCells f.K4)) (hi : SlAt w lo 72 2 32 i f.I.length (idCells f.I))
    (hs : SlAt w lo 29 19 296 s Q.length (Q.flatMap Prod.snd)) (hQ : ∀ q ∈ Q, At w lo q.1 q.2) : At w lo (.mk f (Q.map Prod.fst)) (f.row d a k0 k1 k2 k3 k4 i s)
theorem At.later {w w' : World} {lo : Option Nat} {x : OpC} {cs : List Value} (h : At w lo x cs) (hb : Below w.heap.size w w') : At w' lo x cs := by
 induction h with
 | mk f d a k0 k1 k2 k3 k4 i s Q ok hd ha hk0 hk1 hk2 hk3 hk4 hi hs _ ih => exact .mk f d a k0 k1 k2 k3 k4 i s Q ok (hd.later hb) (ha.later hb) (hk0.later hb) (hk1.later hb) (hk2.later hb) (hk3.later hb) (hk4.later hb) (hi.later hb) (hs.later hb) fun q hq => ih q hq
theorem At.any {w : World} {lo : Option Nat} {x : OpC} {cs : List Value} (h : At w lo x cs) : At w none x cs := by
 induction h with
 | mk f d a k0 k1 k2 k3 k4 i s Q ok hd ha hk0 hk1 hk2 hk3 hk4 hi hs _ ih => exact .mk f d a k0 k1 k2 k3 k4 i s Q ok hd.any ha.any hk0.any hk1.any hk2.any hk3.any hk4.any hi.any hs.any fun q hq => ih q hq
theorem At.len {w : World} {lo : Option Nat} {x : OpC} {cs : List Value} (h : At w lo x cs) : cs.length = 19 := by
 cases h
 rfl
def bulkS (L : List ByteArray) : Nat := (L.map fun s => s.size + 1).sum
def bulkI (L : List (ByteArray × ByteArray)) : Nat := (L.map fun x => x.1.size + x.2.size + 3).sum
def bulkA (L : List AclT) : Nat := (L.map fun x => x.2.1.size + x.2.2.size + 5).sum
def OpF.bulk (f : OpF) : Nat := 20 + f.p.size + f.l.length + bulkA f.L + bulkS f.K0 + bulkS f.K1 + bulkS f.K2 + bulkS f.K3 + bulkS f.K4 + bulkI f.I
mutual
def OpC.bulk : OpC → Nat
 | .mk f S => f.bulk + bulkL S
def bulkL : List OpC → Nat
 | [] => 0
 | x :: r => x.bulk + bulkL r
end
theorem bulkL_sum (Q : List (OpC × List Value)) : bulkL (Q.map Prod.fst) = (Q.map fun q => q.1.bulk).sum := by
 induction Q with
 | nil => simp [bulkL]
 | cons q r ih => simp [bulkL, ih]
section
variable {H : Type} {enc : TypeId × Value → H} {w : World}

theorem acl_openU {cs : List Value} {d : DataW H} (h : RdD enc Tryd.prog w 74 cs d) : ∃ x : AclT, cs = [.int .i32 x.1, .string x.2.1, .string x.2.2] ∧ ((Lit.int .i32 x.1).wf = true ∧ x.2.1.size ≤ reachBytes ∧ x.2.2.size ≤ reachBytes) ∧ x.2.1.size + x.2.2.size + 5 ≤ Rows.uptoBulk d := by
 obtain ⟨hl, ds, hds, hu, hf⟩ := h.structU zU74
 rw [show Tryd.prog.cellsOf 74 = 3 by kernel_rfl] at hl
 obtain ⟨c0, c1, c2, rfl⟩ : ∃ c0 c1 c2, cs = [c0, c1, c2] := by
  match cs, hl with
  | [c0, c1, c2], _ => exact ⟨_, _, _, rfl⟩
 obtain ⟨d0, d1, rfl⟩ : ∃ d0 d1, ds = [d0, d1] := by
  match ds, hds with
  | [d0, d1], _ => exact ⟨_, _, rfl⟩
 have h0 : RdD enc Tryd.prog w 21 (([c0, c1, c2].drop 0).take (Tryd.prog.cellsOf 21)) d0 := (hf 0 _ _ rfl rfl).2
 have h1 : RdD enc Tryd.prog w 72 (([c0, c1, c2].drop 1).take (Tryd.prog.cellsOf 72)) d1 := (hf 1 _ _ rfl rfl).2
 rw [show Tryd.prog.cellsOf 21 = 1 by kernel_rfl] at h0
 rw [show Tryd.prog.cellsOf 72 = 2 by kernel_rfl] at h1
 obtain ⟨_, es, hes, hu', hg⟩ := h1.structU zU72
 obtain ⟨e0, e1, rfl⟩ : ∃ d0 d1, es = [d0, d1] := by
  match es, hes with
  | [d0, d1], _ => exact ⟨_, _, rfl⟩
 have h2 : RdD enc Tryd.prog w 9 (((([c0, c1, c2].drop 1).take 2).drop 0).take (Tryd.prog.cellsOf 9)) e0 := (hg 0 _ _ rfl rfl).2
 have h3 : RdD enc Tryd.prog w 9 (((([c0, c1, c2].drop 1).take 2).drop 1).take (Tryd.prog.cellsOf 9)) e1 := (hg 1 _ _ rfl rfl).2
 rw [show Tryd.prog.cellsOf 9 = 1 by kernel_rfl] at h2 h3
 obtain ⟨z, f0, wz⟩ := h0.rd.int zU21
 obtain ⟨s, f1, ws, us⟩ := h2.stringU zU9
 obtain ⟨i, f2, wi, ui⟩ := h3.stringU zU9
 have hb0 := bulk_one d0
 simp only [Rows.uptoBulkAll] at hu hu'
 simp at f0 f1 f2
 subst f0 f1 f2
 exact ⟨(z, s, i), rfl, ⟨wz, ws, wi⟩, by dsimp only; omega⟩
theorem id_openU {cs : List Value} {d : DataW H} (h : RdD enc Tryd.prog w 72 cs d) : ∃ x : ByteArray × ByteArray, cs = [.string x.1, .string x.2] ∧ (x.1.size ≤ reachBytes ∧ x.2.size ≤ reachBytes) ∧ x.1.size + x.2.size + 3 ≤ Rows.uptoBulk d := by
 obtain ⟨hl, es, hes, hu', hg⟩ := h.structU zU72
 rw [show Tryd.prog.cellsOf 72 = 2 by kernel_rfl] at hl
 obtain ⟨c0, c1, rfl⟩ : ∃ c0 c1, cs = [c0, c1] := by
  match cs, hl with
  | [c0, c1], _ => exact ⟨_, _, rfl⟩
 obtain ⟨e0, e1, rfl⟩ : ∃ d0 d1, es = [d0, d1] := by
  match es, hes with
  | [d0, d1], _ => exact ⟨_, _, rfl⟩
 have h2 : RdD enc Tryd.prog w 9 (([c0, c1].drop 0).take (Tryd.prog.cellsOf 9)) e0 := (hg 0 _ _ rfl rfl).2
 have h3 : RdD enc Tryd.prog w 9 (([c0, c1].drop 1).take (Tryd.prog.cellsOf 9)) e1 := (hg 1 _ _ rfl rfl).2
 rw [show Tryd.prog.cellsOf 9 = 1 by kernel_rfl] at h2 h3
 obtain ⟨s, f1, ws, us⟩ := h2.stringU zU9
 obtain ⟨i, f2, wi, ui⟩ := h3.stringU zU9
 simp only [Rows.uptoBulkAll] at hu'
 simp at f1 f2
 subst f1 f2
 exact ⟨(s, i), rfl, ⟨ws, wi⟩, by dsimp only; omega⟩
theorem strs_openU {cs : List Value} {d : DataW H} (h : RdD enc Tryd.prog w 24 cs d) : ∃ (s : Sl) (L : List ByteArray), cs = [s.v] ∧ SlAt w none 9 1 16 s L.length (strCells L) ∧ (∀ x ∈ L, x.size ≤ reachBytes) ∧ bulkS L + 1 ≤ Rows.uptoBulk d := by
 obtain ⟨A, n, c, L, e, h1, h2, hc, h3, h4, h5, h6, h7⟩ := h.rowsU zU24 (size := 1) (by kernel_rfl) (by decide) (fun s : ByteArray => [Value.string s]) (fun s => s.size ≤ reachBytes) (fun s => s.size + 1) (fun cs' d' hr _ => by
  obtain ⟨s, hs, hb, hu⟩ := hr.stringU zU9
  exact ⟨s, hs, hb, hu⟩)
 rw [show Tryd.prog.bytesOf 9 = 16 by kernel_rfl] at h3
 exact ⟨⟨A, n, c⟩, L, e, ⟨h1, h2, hc, Nat.le_trans (Nat.mul_le_mul_right _ h2) h3, h4, h6, fun _ hl => by cases hl⟩, h5, h7⟩
theorem ids_openU {cs : List Value} {d : DataW H} (h : RdD enc Tryd.prog w 26 cs d) : ∃ (s : Sl) (L : List (ByteArray × ByteArray)), cs = [s.v] ∧ SlAt w none 72 2 32 s L.length (idCells L) ∧ (∀ x ∈ L, x.1.size ≤ reachBytes ∧ x.2.size ≤ reachBytes) ∧ bulkI L + 1 ≤ Rows.uptoBulk d := by
 obtain ⟨A, n, c, L, e, h1, h2, hc, h3, h4, h5, h6, h7⟩ := h.rowsU zU26 (size := 2) (by kernel_rfl) (by decide) (fun x : ByteArray × ByteArray => [Value.string x.1, Value.string x.2]) (fun x => x.1.size ≤ reachBytes ∧ x.2.size ≤ reachBytes) (fun x => x.1.size + x.2.size + 3) (fun cs' d' hr _ => id_openU hr)
 rw [show Tryd.prog.bytesOf 72 = 32 by kernel_rfl] at h3
 exact ⟨⟨A, n, c⟩, L, e, ⟨h1, h2, hc, Nat.le_trans (Nat.mul_le_mul_right _ h2) h3, h4, h6, fun _ hl => by cases hl⟩, h5, h7⟩
theorem acls_openU {cs : List Value} {d : DataW H} (h : RdD enc Tryd.prog w 23 cs d) : ∃ (s : Sl) (L : List AclT), cs = [s.v] ∧ SlAt w none 74 3 40 s L.length (aclCells L) ∧ (∀ x ∈ L, (Lit.int .i32 x.1).wf = true ∧ x.2.1.size ≤ reachBytes ∧ x.2.2.size ≤ reachBytes) ∧ bulkA L + 1 ≤ Rows.uptoBulk d := by
 obtain ⟨A, n, c, L, e, h1, h2, hc, h3, h4, h5, h6, h7⟩ := h.rowsU zU23 (size := 3) (by kernel_rfl) (by decide) (fun a : AclT => [Value.int .i32 a.1, .string a.2.1, .string a.2.2]) (fun x => (Lit.int .i32 x.1).wf = true ∧ x.2.1.size ≤ reachBytes ∧ x.2.2.size ≤ reachBytes) (fun x => x.2.1.size + x.2.2.size + 5) (fun cs' d' hr _ => acl_openU hr)
 rw [show Tryd.prog.bytesOf 74 = 40 by kernel_rfl] at h3
 exact ⟨⟨A, n, c⟩, L, e, ⟨h1, h2, hc, Nat.le_trans (Nat.mul_le_mul_right _ h2) h3, h4, h6, fun _ hl => by cases hl⟩, h5, h7⟩
theorem cells_list19 {α : Type} (cs : List α) (h : cs.length = 19) : ∃ c0 c1 c2 c3 c4 c5 c6 c7 c8 c9 c10 c11 c12 c13 c14 c15 c16 c17 c18, cs = [c0, c1, c2, c3, c4, c5, c6, c7, c8, c9, c10, c11, c12, c13, c14, c15, c16, c17, c18] := by
 match cs, h with
 | [c0, c1, c2, c3, c4, c5, c6, c7, c8, c9, c10, c11, c12, c13, c14, c15, c16, c17, c18], _ => exact ⟨_, _, _, _, _, _, _, _, _, _, _, _, _, _, _, _, _, _, _, rfl⟩

theorem data_list15 {α : Type} (cs : List α) (h : cs.length = 15) : ∃ d0 d1 d2 d3 d4 d5 d6 d7 d8 d9 d10 d11 d12 d13 d14, cs = [d0, d1, d2, d3, d4, d5, d6, d7, d8, d9, d10, d11, d12, d13, d14] := by
 match cs, h with
 | [d0, d1, d2, d3, d4, d5, d6, d7, d8, d9, d10, d11, d12, d13, d14], _ => exact ⟨_, _, _, _, _, _, _, _, _, _, _, _, _, _, _, rfl⟩

theorem op_openN : ∀ (N : Nat) (d : DataW H), SizeOf.sizeOf d ≤ N → ∀ cs, RdD enc Tryd.prog w 29 cs d → ∃ x : OpC, At w none x cs ∧ x.bulk ≤ Rows.uptoBulk d := by
 intro N
 induction N with
 | zero =>
   intro d hd
   cases d <;> (exact absurd hd (by simp))
 | succ N ih =>
   intro d hd cs h
   obtain ⟨hl, ds, hds, hbu, hf⟩ := h.structU zU29
   rw [show Tryd.prog.cellsOf 29 = 19 by kernel_rfl] at hl
   obtain ⟨c0, c1, c2, c3, c4, c5, c6, c7, c8, c9, c10, c11, c12, c13, c14, c15, c16, c17, c18, rfl⟩ := cells_list19 cs hl
   obtain ⟨d0, d1, d2, d3, d4, d5, d6, d7, d8, d9, d10, d11, d12, d13, d14, rfl⟩ := data_list15 ds hds
   obtain ⟨z0, h0⟩ : SizeOf.sizeOf d0 < SizeOf.sizeOf d ∧ RdD enc Tryd.prog w 21 (([c0, c1, c2, c3, c4, c5, c6, c7, c8, c9, c10, c11, c12, c13, c14, c15, c16, c17, c18].drop 0).take (Tryd.prog.cellsOf 21)) d0 := hf 0 _ _ rfl rfl
   rw [show Tryd.prog.cellsOf 21 = 1 by kernel_rfl] at h0
   obtain ⟨z1, h1⟩ : SizeOf.sizeOf d1 < SizeOf.sizeOf d ∧ RdD enc Tryd.prog w 9 (([c0, c1, c2, c3, c4, c5, c6, c7, c8, c9, c10, c11, c12, c13, c14, c15, c16, c17, c18].drop 1).take (Tryd.prog.cellsOf 9)) d1 := hf 1 _ _ rfl rfl
   rw [show Tryd.prog.cellsOf 9 = 1 by kernel_rfl] at h1
   obtain ⟨z2, h2⟩ : SizeOf.sizeOf d2 < SizeOf.sizeOf d ∧ RdD enc Tryd.prog w 22 (([c0, c1, c2, c3, c4, c5, c6, c7, c8, c9, c10, c11, c12, c13, c14, c15, c16, c17, c18].drop 2).take (Tryd.prog.cellsOf 22)) d2 := hf 2 _ _ rfl rfl
   rw [show Tryd.prog.cellsOf 22 = 1 by kernel_rfl] at h2
   obtain ⟨z3, h3⟩ : SizeOf.sizeOf d3 < SizeOf.sizeOf d ∧ RdD enc Tryd.prog w 23 (([c0, c1, c2, c3, c4, c5, c6, c7, c8, c9, c10, c11, c12, c13, c14, c15, c16, c17, c18].drop 3).take (Tryd.prog.cellsOf 23)) d3 := hf 3 _ _ rfl rfl
   rw [show Tryd.prog.cellsOf 23 = 1 by kernel_rfl] at h3
   obtain ⟨z4, h4⟩ : SizeOf.sizeOf d4 < SizeOf.sizeOf d ∧ RdD enc Tryd.prog w 21 (([c0, c1, c2, c3, c4, c5, c6, c7, c8, c9, c10, c11, c12, c13, c14, c15, c16, c17, c18].drop 4).take (Tryd.prog.cellsOf 21)) d4 := hf 4 _ _ rfl rfl
   rw [show Tryd.prog.cellsOf 21 = 1 by kernel_rfl] at h4
   obtain ⟨z5, h5⟩ : SizeOf.sizeOf d5 < SizeOf.sizeOf d ∧ RdD enc Tryd.prog w 21 (([c0, c1, c2, c3, c4, c5, c6, c7, c8, c9, c10, c11, c12, c13, c14, c15, c16, c17, c18].drop 5).take (Tryd.prog.cellsOf 21)) d5 := hf 5 _ _ rfl rfl
   rw [show Tryd.prog.cellsOf 21 = 1 by kernel_rfl] at h5
   obtain ⟨z6, h6⟩ : SizeOf.sizeOf d6 < SizeOf.sizeOf d ∧ RdD enc Tryd.prog w 4 (([c0, c1, c2, c3, c4, c5, c6, c7, c8, c9, c10, c11, c12, c13, c14, c15, c16, c17, c18].drop 6).take (Tryd.prog.cellsOf 4)) d6 := hf 6 _ _ rfl rfl
   rw [show Tryd.prog.cellsOf 4 = 1 by kernel_rfl] at h6
   obtain ⟨z7, h7⟩ : SizeOf.sizeOf d7 < SizeOf.sizeOf d ∧ RdD enc Tryd.prog w 2 (([c0, c1, c2, c3, c4, c5, c6, c7, c8, c9, c10, c11, c12, c13, c14, c15, c16, c17, c18].drop 7).take (Tryd.prog.cellsOf 2)) d7 := hf 7 _ _ rfl rfl
   rw [show Tryd.prog.cellsOf 2 = 1 by kernel_rfl] at h7
   obtain ⟨z8, h8⟩ : SizeOf.sizeOf d8 < SizeOf.sizeOf d ∧ RdD enc Tryd.prog w 2 (([c0, c1, c2, c3, c4, c5, c6, c7, c8, c9, c10, c11, c12, c13, c14, c15, c16, c17, c18].drop 8).take (Tryd.prog.cellsOf 2)) d8 := hf 8 _ _ rfl rfl
   rw [show Tryd.prog.cellsOf 2 = 1 by kernel_rfl] at h8
   obtain ⟨z9, h9⟩ : SizeOf.sizeOf d9 < SizeOf.sizeOf d ∧ RdD enc Tryd.prog w 2 (([c0, c1, c2, c3, c4, c5, c6, c7, c8, c9, c10, c11, c12, c13, c14, c15, c16, c17, c18].drop 9).take (Tryd.prog.cellsOf 2)) d9 := hf 9 _ _ rfl rfl
   rw [show Tryd.prog.cellsOf 2 = 1 by kernel_rfl] at h9
   obtain ⟨z10, h10⟩ : SizeOf.sizeOf d10 < SizeOf.sizeOf d ∧ RdD enc Tryd.prog w 2 (([c0, c1, c2, c3, c4, c5, c6, c7, c8, c9, c10, c11, c12, c13, c14, c15, c16, c17, c18].drop 10).take (Tryd.prog.cellsOf 2)) d10 := hf 10 _ _ rfl rfl
   rw [show Tryd.prog.cellsOf 2 = 1 by kernel_rfl] at h10
   obtain ⟨z11, h11⟩ : SizeOf.sizeOf d11 < SizeOf.sizeOf d ∧ RdD enc Tryd.prog w 25 (([c0, c1, c2, c3, c4, c5, c6, c7, c8, c9, c10, c11, c12, c13, c14, c15, c16, c17, c18].drop 11).take (Tryd.prog.cellsOf 25)) d11 := hf 11 _ _ rfl rfl
   rw [show Tryd.prog.cellsOf 25 = 5 by kernel_rfl] at h11
   obtain ⟨z12, h12⟩ : SizeOf.sizeOf d12 < SizeOf.sizeOf d ∧ RdD enc Tryd.prog w 21 (([c0, c1, c2, c3, c4, c5, c6, c7, c8, c9, c10, c11, c12, c13, c14, c15, c16, c17, c18].drop 16).take (Tryd.prog.cellsOf 21)) d12 := hf 12 _ _ rfl rfl
   rw [show Tryd.prog.cellsOf 21 = 1 by kernel_rfl] at h12
   obtain ⟨z13, h13⟩ : SizeOf.sizeOf d13 < SizeOf.sizeOf d ∧ RdD enc Tryd.prog w 26 (([c0, c1, c2, c3, c4, c5, c6, c7, c8, c9, c10, c11, c12, c13, c14, c15, c16, c17, c18].drop 17).take (Tryd.prog.cellsOf 26)) d13 := hf 13 _ _ rfl rfl
   rw [show Tryd.prog.cellsOf 26 = 1 by kernel_rfl] at h13
   obtain ⟨z14, h14⟩ : SizeOf.sizeOf d14 < SizeOf.sizeOf d ∧ RdD enc Tryd.prog w 27 (([c0, c1, c2, c3, c4, c5, c6, c7, c8, c9, c10, c11, c12, c13, c14, c15, c16, c17, c18].drop 18).take (Tryd.prog.cellsOf 27)) d14 := hf 14 _ _ rfl rfl
   rw [show Tryd.prog.cellsOf 27 = 1 by kernel_rfl] at h14
   obtain ⟨t, e0, w0⟩ := h0.rd.int zU21
   obtain ⟨p, e1, w1, u1⟩ := h1.stringU zU9
   obtain ⟨dA, dn, dc, l, e2, x1, x2, x3, x4, x5, u2⟩ := h2.bytesU zU22 zU5 (by kernel_rfl) (by kernel_rfl)
   obtain ⟨a, L, e3, ha, hL, u3⟩ := acls_openU h3
   obtain ⟨fl, e4, w4⟩ := h4.rd.int zU21
   obtain ⟨ve, e5, w5⟩ := h5.rd.int zU21
   obtain ⟨wa, e6⟩ := h6.rd.bool zU4
   obtain ⟨ct, e7, w7⟩ := h7.rd.int zU2
   obtain ⟨by_, e8, w8⟩ := h8.rd.int zU2
   obtain ⟨tl, e9, w9⟩ := h9.rd.int zU2
   obtain ⟨zx, e10, w10⟩ := h10.rd.int zU2
   obtain ⟨_, gs, hgs, hgu, hg⟩ := h11.arrayU zU25
   rw [show Tryd.prog.cellsOf 24 = 1 by kernel_rfl] at hg
   obtain ⟨g0, g1, g2, g3, g4, rfl⟩ : ∃ d0 d1 d2 d3 d4, gs = [d0, d1, d2, d3, d4] := by
    match gs, hgs with
    | [d0, d1, d2, d3, d4], _ => exact ⟨_, _, _, _, _, rfl⟩
   obtain ⟨k0, K0, f0, hk0, t0, v0⟩ := strs_openU (hg 0 _ (by decide) rfl)
   obtain ⟨k1, K1, f1, hk1, t1, v1⟩ := strs_openU (hg 1 _ (by decide) rfl)
   obtain ⟨k2, K2, f2, hk2, t2, v2⟩ := strs_openU (hg 2 _ (by decide) rfl)
   obtain ⟨k3, K3, f3, hk3, t3, v3⟩ := strs_openU (hg 3 _ (by decide) rfl)
   obtain ⟨k4, K4, f4, hk4, t4, v4⟩ := strs_openU (hg 4 _ (by decide) rfl)
   obtain ⟨to, e12, w12⟩ := h12.rd.int zU21
   obtain ⟨i, I, e13, hi, hI, u13⟩ := ids_openU h13
   obtain ⟨sA, sn, sc, Q, e14, s1, s2, s2', s3, s4, s5, s6, u14⟩ := h14.rowsU zU27 (size := 19) (by kernel_rfl) (by decide) (Prod.snd : OpC × List Value → List Value) (fun q => At w none q.1 q.2) (fun q => q.1.bulk) (fun cs' d' hr hz => by
    obtain ⟨x, hx, hm⟩ := ih d' (by omega) cs' hr
    exact ⟨(x, cs'), rfl, hx, hm⟩)
   rw [show Tryd.prog.bytesOf 29 = 296 by kernel_rfl] at s3
   simp only [Rows.uptoBulkAll] at hbu hgu
   have b0 := bulk_one d0
   have b4 := bulk_one d4
   have b5 := bulk_one d5
   have b6 := bulk_one d6
   have b7 := bulk_one d7
   have b8 := bulk_one d8
   have b9 := bulk_one d9
   have b10 := bulk_one d10
   have b12 := bulk_one d12
   have hQ : bulkL (Q.map Prod.fst) + 1 ≤ Rows.uptoBulk d14 := by rw [bulkL_sum]; exact u14
   simp at e0 e1 e2 e3 e4 e5 e6 e7 e8 e9 e10 e12 e13 e14 f0 f1 f2 f3 f4
   subst e0 e1 e2 e3 e4 e5 e6 e7 e8 e9 e10 e12 e13 e14 f0 f1 f2 f3 f4
   refine ⟨_, .mk ⟨t, p, l, L, fl, ve, wa, ct, by_, tl, zx, K0, K1, K2, K3, K4, to, I⟩ ⟨dA, dn, dc⟩ a k0 k1 k2 k3 k4 i ⟨sA, sn, sc⟩ Q ⟨w0, w4, w5, w7, w8, w9, w10, w12, w1, hL, hI, t0, t1, t2, t3, t4⟩ ⟨x1, x2, Nat.le_trans x3 (by decide), by rw [Nat.mul_one]; exact Nat.le_trans x2 x3, x4, x5, fun _ hl => by cases hl⟩ ha hk0 hk1 hk2 hk3 hk4 hi ⟨s1, s2, s2', Nat.le_trans (Nat.mul_le_mul_right _ s2) s3, s4, s6, fun _ hl => by cases hl⟩ s5, ?_⟩
   rw [OpC.bulk, OpF.bulk]
   dsimp only
   omega
end
end
end Go.Proofs.YtpjjnmdfgcfnmaaDoor
