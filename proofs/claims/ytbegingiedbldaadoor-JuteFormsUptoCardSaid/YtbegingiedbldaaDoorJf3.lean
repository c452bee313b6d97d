/- JuteForms: where a script ends; a piece of a row of texts; the state of the second loop: plain. -/
import Derived.Test.YtbegingiedbldaaDoorJf2
import Derived.Test.YtbegingiedbldaaDoorJl2
import Derived.Test.YtbegingiedbldaaDoorJv1
namespace Go.Proofs.YtbegingiedbldaaDoor
open Go.RowKit

/-- a reading fails among the bytes -/
def Lim {α : Type} (g : Rg α) : Prop := ∀ (l : List UInt8) (p : Nat), p ≤ l.length → ∀ (e : Int) (q : Nat), g l p = .inr (e, q) → q ≤ l.length
theorem Lim.map {α β : Type} {f : α → β} {g : Rg α} (h : Lim g) : Lim (g.map f) := fun l p hp e q hh => by
  unfold Rg.map at hh
  split at hh
  · cases hh
  · rename_i e' he
    obtain rfl := Sum.inr.inj hh
    exact h l p hp _ _ he
theorem Lim.ret {α : Type} (x : α) : Lim (Rg.ret x) := fun _ _ _ _ _ hh => by cases hh
theorem Lim.next (k : Nat) : Lim (gNext k) := fun l p hp e q hh => by
  unfold gNext at hh
  split at hh
  · cases hh
  · obtain ⟨rfl, rfl⟩ := Prod.mk.inj (Sum.inr.inj hh)
    exact hp
theorem Lim.num (k : Nat) : Lim (gNum k) := (Lim.next k).map
theorem Lim.int : Lim gInt := (Lim.num 4).map
theorem Lim.long : Lim gLong := (Lim.num 8).map
theorem Lim.bool : Lim gBool := fun l p hp e q hh => by
  unfold gBool at hh
  split at hh
  · split at hh
    · obtain ⟨rfl, rfl⟩ := Prod.mk.inj (Sum.inr.inj hh)
      exact hp
    · cases hh
  · rename_i e' he
    obtain rfl := Sum.inr.inj hh
    exact Lim.num 1 l p hp _ _ he
theorem Lim.size (most : Int) : Lim (gSize most) := fun l p hp e q hh => by
  unfold gSize at hh
  split at hh
  · split at hh
    · obtain ⟨rfl, rfl⟩ := Prod.mk.inj (Sum.inr.inj hh)
      exact hp
    · cases hh
  · rename_i e' he
    obtain rfl := Sum.inr.inj hh
    exact Lim.int l p hp _ _ he
theorem Lim.buf (most : Int) : Lim (gBuf most) := fun l p hp e q hh => by
  unfold gBuf at hh
  split at hh
  · split at hh
    · cases hh
    · obtain ⟨rfl, rfl⟩ := Prod.mk.inj (Sum.inr.inj hh)
      exact hp
  · rename_i e' he
    obtain rfl := Sum.inr.inj hh
    exact Lim.size most l p hp _ _ he
theorem Lim.text (most : Int) : Lim (gText most) := fun l p hp e q hh => by
  unfold gText at hh
  split at hh
  · split at hh
    · cases hh
    · obtain ⟨rfl, rfl⟩ := Prod.mk.inj (Sum.inr.inj hh)
      exact hp
  · rename_i e' he
    obtain rfl := Sum.inr.inj hh
    exact Lim.buf most l p hp _ _ he
theorem Lim.count (most least : Int) : Lim (gCount most least) := fun l p hp e q hh => by
  unfold gCount at hh
  split at hh
  · split at hh
    · obtain ⟨rfl, rfl⟩ := Prod.mk.inj (Sum.inr.inj hh)
      exact hp
    · cases hh
  · rename_i e' he
    obtain rfl := Sum.inr.inj hh
    exact Lim.size most l p hp _ _ he
theorem Lim.many (most : Int) : ∀ n, Lim (gMany (gText most) n)
  | 0 => Lim.ret _
  | n + 1 => fun l p hp e q hh => by
    simp only [gMany, Rg.bind] at hh
    split at hh
    · rename_i x q1 hx
      exact (Lim.many most n).map l q1 (gText_at _ _ _ _ hx).2 e q hh
    · rename_i e' he
      obtain rfl := Sum.inr.inj hh
      exact Lim.text most l p hp _ _ he
theorem Lim.get (most least m : Int) : Lim (gGet most least (gText m)) := fun l p hp e q hh => by
  unfold gGet Rg.bind at hh
  split at hh
  · rename_i n q1 hn
    exact Lim.many m n l q1 (gCount_at hn).2.1 e q hh
  · rename_i e' he
    obtain rfl := Sum.inr.inj hh
    exact Lim.count most least l p hp _ _ he
theorem Lim.left : Lim gLeft := fun _ _ _ _ _ hh => by cases hh
theorem Lim.fail (z : Int) : Lim (gFail z) := fun l p hp e q hh => by
  unfold gFail at hh
  split at hh
  · cases hh
  · obtain ⟨rfl, rfl⟩ := Prod.mk.inj (Sum.inr.inj hh)
    exact hp
theorem Lim.step (s : St) : Lim (stepR s) := by
  unfold stepR
  split
  · exact Lim.bool.map
  split
  · exact (Lim.num 1).map
  split
  · exact Lim.int.map
  split
  · exact Lim.long.map
  split
  · exact (Lim.buf _).map
  split
  · exact (Lim.text _).map
  split
  · exact (Lim.count _ _).map
  split
  · exact (Lim.get _ _ _).map
  split
  · exact Lim.left.map
  split
  · exact (Lim.fail _).map
  · exact Lim.ret _
theorem play_at : ∀ (S : List St) (l : List UInt8) (p : Nat), p ≤ l.length → rAt (play S l p).2 ≤ l.length
  | [], l, p, hp => hp
  | s :: S, l, p, hp => by
    simp only [play]
    rcases hr : stepR s l p with ⟨g, q⟩ | ⟨e, q⟩
    · exact play_at S l q (stepR_at s hp hr).2.2
    · exact Lim.step s l p hp e q hr
/-- a script that ends without an error -/
theorem form_end {most : Int} {K : List Int} {l : List UInt8} (h : rE (play (fmS most K) l 0).2 = 0) : ∃ q, (play (fmS most K) l 0).2 = .inl q := by
  rcases hr : (play (fmS most K) l 0).2 with q | ⟨er, q⟩
  · exact ⟨q, rfl⟩
  · rw [hr] at h
    exact absurd h ((play_longer (fmS most K) (fun s hs => by
      obtain ⟨k, rfl, _, _⟩ := fmS_kind hs
      show k ≠ 9
      omega) l [] 0 (Nat.zero_le _)).2 er q hr).1
theorem MidP.pre {l : List UInt8} {S : List St} {k q : Nat} {N : List Int} {T : List (List UInt8)} (h : MidP l S k q N T) : ∃ N' T', (play S l 0).1.1 = N ++ N' ∧ (play S l 0).1.2 = T ++ T' := ⟨_, _, h.2.2.1.symm, h.2.2.2.1.symm⟩
theorem fmS_snoc (most : Int) (K : List Int) (k : Nat) (z : Int) (hk : K[k]? = some z) : fmS most (K.take (k + 1)) = fmS most (K.take k) ++ fmK most z := flat_take (fmK most) K k z hk
theorem fmS_len (most : Int) (K : List Int) : (fmS most K).length ≤ K.length := by
  induction K with
  | nil => simp [fmS]
  | cons v S ih =>
    have h : (fmK most v).length ≤ 1 := by
      unfold fmK
      split <;> simp
    have e : fmS most (v :: S) = fmK most v ++ fmS most S := by simp [fmS]
    rw [e, List.length_append, List.length_cons]
    omega

theorem reads_txts {w : World} {B n p k : Nat} {A : Option Addr} {l : List ByteArray} (h : Reads w B 1 A n (scells l)) (hp : p + k ≤ n) : Reads w B 1 (A.map fun x => x.add p) k (scells ((l.drop p).take k)) := by
  have hl : l.length = n := by have := h.1; rw [scells_length] at this; omega
  refine ⟨by rw [scells_length, List.length_take, List.length_drop]; omega, fun hk => ?_⟩
  obtain ⟨ad, rfl, hb, hc⟩ := h.2 (by omega)
  refine ⟨ad.add p, rfl, by rw [block_of_add]; exact hb, fun j u hu => ?_⟩
  rw [add_of_add]
  refine hc _ u ?_
  simp only [scells, List.getElem?_map, List.getElem?_take, List.getElem?_drop] at hu ⊢
  split at hu
  · exact hu
  · cases hu
/-- 's[p:p+n]' of texts -/
theorem run_cutT {w : World} {B m : Nat} {A : Option Addr} {l : List ByteArray} {c : Nat} (h : Reads w B 1 A m (scells l)) (hc : m ≤ c) (hnil : A = none → c = 0) (p n : Nat) (hpn : p + n ≤ m) :
    ∃ A1 c1, (∀ W : World, (Instr.sliceAt 26 (.slice A m c) (some (.int .i64 (p : Int))) (some (.int .i64 ((p : Int) + n))) none).run Tryd.prog W = .ok (.slice A1 n c1) W) ∧ Reads w B 1 A1 n (scells ((l.drop p).take n)) := by
  by_cases e : c = p
  · subst e
    have hn : n = 0 := by omega
    subst hn
    refine ⟨A, 0, fun W => ?_, ⟨by simp [scells], fun h => absurd h (by omega)⟩⟩
    simp [go_sem]
    try omega
  · refine ⟨A.map fun x => x.add p, c - p, fun W => ?_, reads_txts h hpn⟩
    have h1 : (p : Int) ≤ p + n := by omega
    have h2 : (p : Int) + n ≤ c := by omega
    simp [go_sem, e, h1, h2]
    try omega

theorem vl_info : (Tryd.prog.info? 68).map (fun i => (i.zero, i.size, i.bytes)) = some (some (.agg #[.int .i64 0, .int .i64 0, .string .empty, .slice none 0 0]), 4, 56) := by kernel_rfl
theorem vl_one (s : Vl) : ∀ u ∈ vlCells s, u.oneCell' = true := by
  intro u hu
  simp only [vlCells, List.mem_cons, List.not_mem_nil, or_false] at hu
  rcases hu with rfl | rfl | rfl | rfl <;> rfl
theorem fst_info : (Tryd.prog.info? 53).map (fun i => (i.zero, i.size, i.bytes)) = some (some (.agg #[.int .i64 0, .int .i64 0, .int .i64 0, .int .i64 0]), 4, 32) := by kernel_rfl
theorem fst_one (s : St) : ∀ u ∈ stCells s, u.oneCell' = true := by
  intro u hu
  simp only [stCells, List.mem_cons, List.not_mem_nil, or_false] at hu
  rcases hu with rfl | rfl | rfl | rfl <;> rfl

/-- the second loop behind k steps: the values so far lie in a row of their own, laid behind w -/
def FLoop (l : List UInt8) (S : List St) (w : World) (k : Nat) (N : List Int) (T : List (List UInt8)) (vV : Value) (wr : World) : Prop :=
  ∃ (q : Nat) (V : List Vl), FormMid l S k q N T V ∧ (∀ x ∈ V, Reads w w.heap.size 1 x.A x.n (scells x.L) ∧ x.n ≤ 1099511627776) ∧ wr.ownsRow w.heap.size 68 4 vV V.length (V.flatMap vlCells) ∧ Below w.heap.size w wr
end Go.Proofs.YtbegingiedbldaaDoor
