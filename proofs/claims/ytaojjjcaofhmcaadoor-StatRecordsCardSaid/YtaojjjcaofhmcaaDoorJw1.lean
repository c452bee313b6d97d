/- The writer: put, numbers, buffers, texts: what lies behind each call. -/
import Derived.Test.YtaojjjcaofhmcaaDoorJk
namespace Go.Proofs.YtaojjjcaofhmcaaDoor
open Go.RowKit

theorem u8_info : (Tryd.prog.info? 5).map (fun i => (i.zero, i.size, i.bytes)) = some (some (.int .u8 0), 1, 1) := by kernel_rfl

/-- a writer at block g: it holds the slice v, which is its own row of the bytes l -/
def Wr (w : World) (base g : Nat) (v : Value) (l : List UInt8) : Prop := Blk w g 69 #[v] ∧ w.ownsRow base 5 1 v l.length (bcells l)

/-- behind a writing of k: the slice v has become v' -/
def Wrote (base g : Nat) (v v' : Value) (l k : List UInt8) (w w' : World) : Prop :=
  Wr w' base g v' (l ++ k) ∧ Kp (g :: v.ownBlock.toList) w w' ∧ (v'.ownBlock = v.ownBlock ∨ ∃ x, v'.ownBlock = some x ∧ w.heap.size ≤ x)

section
variable {w w1 w2 w' : World} {base g : Nat} {v v1 v2 : Value} {l k m : List UInt8}
theorem Wr.lt (h : Wr w base g v l) : g < w.heap.size := h.1.lt
theorem Wr.kp {X : List Nat} (h : Wr w base g v l) (hk : Kp X w w') (hg : g ∉ X) (hX : ∀ x ∈ X, v.ownBlock ≠ some x) : Wr w' base g v l := ⟨h.1.kp hk hg, own_kp h.2 hk hX⟩
theorem Wr.later (h : Wr w base g v l) (hb : Below w.heap.size w w') : Wr w' base g v l := ⟨h.1.below hb h.1.lt, own_kp h.2 (Kp.of_below (X := []) hb) (fun _ h => by cases h)⟩
theorem Wrote.start (h : Wr w base g v l) : Wrote base g v v l [] w w := ⟨by simpa using h, Kp.refl _ _, .inl rfl⟩
theorem Wrote.later (h : Wrote base g v v1 l k w w1) (hb : Below w1.heap.size w1 w') : Wrote base g v v1 l k w w' :=
  ⟨h.1.later hb, h.2.1.to (Kp.of_below (X := []) hb) (fun _ hx _ => hx) (fun _ h => by cases h), h.2.2⟩
theorem Wrote.size (h : Wrote base g v v1 l k w w') : w.heap.size ≤ w'.heap.size := h.2.1.size
theorem Wrote.cat (h : Wrote base g v v1 l k w w1) (hb : Below w1.heap.size w1 w2) (h2 : Wrote base g v1 v2 (l ++ k) m w2 w') : Wrote base g v v2 l (k ++ m) w w' := by
  obtain ⟨hw1, hk1, ho1⟩ := h.later hb
  obtain ⟨hw2, hk2, ho2⟩ := h2
  refine ⟨by rw [← List.append_assoc]; exact hw2, hk1.to hk2 (fun x hx _ => hx) (fun y hy hl => ?_), ?_⟩
  · rcases List.mem_cons.1 hy with rfl | hy
    · simp
    · rcases ho1 with e | ⟨x, e, hx⟩
      · rw [e] at hy; exact List.mem_cons_of_mem _ hy
      · rw [e] at hy; simp at hy; omega
  · rcases ho2 with e | ⟨x, e, hx⟩
    · rcases ho1 with e1 | ⟨y, e1, hy⟩
      · exact .inl (e.trans e1)
      · exact .inr ⟨y, e.trans e1, hy⟩
    · exact .inr ⟨x, e, Nat.le_trans hk1.size hx⟩
/-- blocks that were laid ahead of a writing are no part of what it says -/
theorem Wrote.from (h : Wrote base g v v1 l k w1 w') (hb : Below w.heap.size w w1) : Wrote base g v v1 l k w w' := by
  obtain ⟨h1, h2, h3⟩ := h
  refine ⟨h1, (Kp.of_below (X := []) hb).to h2 (fun _ h => by cases h) (fun y hy _ => hy), ?_⟩
  rcases h3 with e | ⟨x, e, hx⟩
  · exact .inl e
  · exact .inr ⟨x, e, Nat.le_trans hb.size hx⟩
theorem Wrote.below {B : Nat} (h : Wrote base g v v1 l k w w') (hg : B ≤ g) (hv : ∀ x, v.ownBlock = some x → B ≤ x) (hw : B ≤ w.heap.size) : Below B w w' :=
  h.2.1.below (fun x hx => by
    rcases List.mem_cons.1 hx with rfl | hx
    · exact hg
    · exact hv x (by simpa using hx)) hw
end

set_option maxRecDepth 100000 in
set_option maxHeartbeats 400000 in
theorem put_any (base g : Nat) (v : Value) (l k : List UInt8) (A : Option Addr) (m c B : Nat) (w : World) (h : Wr w base g v l) (hr : Reads w B 1 A m (bcells k)) (hbase : base ≤ w.heap.size) (hsz : l.length + k.length ≤ 140737488355328) :
    Calls Tryd.prog 88 #[.pointer (some ⟨g, 0, none⟩), .slice A m c] w fun e w' => e = .returned (.tuple #[]) ∧ ∃ v', Wrote base g v v' l k w w' := by
  obtain ⟨i0, hi0, hz0, hz1, hz2⟩ := info_parts u8_info
  have hm : k.length = m := by have := hr.1; rw [bcells_length] at this; omega
  subst hm
  have HR := Lib.hid hr
  obtain ⟨hb, ho⟩ := h
  have hc := hb.cell 0
  simp only [List.getElem?_toArray, List.getElem?_cons_zero] at hc
  have hf := hb.frozen 0
  have HB := Lib.hid hb
  have HO := Lib.hid ho
  clear hr hb ho
  go_enter Tryd.func88, Tryd.ntmps88
  go_wp2_with (at_builtin; refine wpList_append_any _ rfl (.tmp 10) (.tmp 11) _ rfl base 5 i0 _ 1 1 Tryd.underlying24 hi0 hz0 hz1 hz2 rfl (by decide) v l.length (bcells l) rfl HO.out B A k.length c (bcells k) rfl HR.out (bcells_one _) (by simp only [maxLen]; omega) (by omega) hbase ?_; intro v1 w1 hown1 hg1 hat1; obtain ⟨A1, c1, rfl⟩ := slice_form hown1; have hne : v.ownBlock ≠ some g := own_blk_ne HO.out HB.out (by decide); have hb1 : Blk w1 g 69 #[v] := HB.out.grown hg1 (fun e => hne e.symm); have hc1 := hb1.cell 0; have hf1 := hb1.frozen 0; simp only [List.getElem?_toArray, List.getElem?_cons_zero] at hc1; have HB1 := Lib.hid hb1; have HO1 := Lib.hid hown1; have HG1 := Lib.hid hg1; have HA1 := Lib.hid hat1; clear hb1 hown1 hg1 hat1 hc hf)
  go_end0
  refine ⟨rfl, .slice A1 (l.length + k.length) c1, ⟨?_, ?_⟩, ?_, ?_⟩
  · exact HB1.out.set_ 0 _
  · rw [bcells_append, List.length_append]
    exact own_set HO1.out HB1.out (by decide) 0 _
  · exact (Kp.of_grown HG1.out).to (Kp.setCell _ _) (fun x hx _ => List.mem_cons_of_mem _ hx) (fun y hy _ => by simp at hy; simp [hy])
  · rcases HA1.out with e | e
    · exact .inl e
    · exact .inr ⟨_, e, Nat.le_refl _⟩
end Go.Proofs.YtaojjjcaofhmcaaDoor
