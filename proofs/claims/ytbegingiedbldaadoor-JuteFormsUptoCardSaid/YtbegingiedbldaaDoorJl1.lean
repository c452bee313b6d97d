/- Of longer bytes the same is read: plain. -/
import Derived.Test.YtbegingiedbldaaDoorJq2
namespace Go.Proofs.YtbegingiedbldaaDoor
open Go.RowKit

/-- of longer bytes the same, or it ran out of bytes -/
def Lg {α : Type} (g : Rg α) : Prop := ∀ (l m : List UInt8) (p : Nat), p ≤ l.length →
  (∀ x q, g l p = .inl (x, q) → q ≤ l.length ∧ g (l ++ m) p = .inl (x, q)) ∧ (∀ er q, g l p = .inr (er, q) → er ≠ 0 ∧ (er = 20 ∨ g (l ++ m) p = .inr (er, q)))

theorem Lg.ret {α : Type} (x : α) : Lg (Rg.ret x) := fun l m p hp => ⟨fun y q h => by
  simp only [Rg.ret, Sum.inl.injEq, Prod.mk.injEq] at h ⊢
  exact ⟨by omega, h⟩, fun er q h => (by cases h)⟩
theorem Lg.map {α β : Type} {f : α → β} {g : Rg α} (hg : Lg g) : Lg (g.map f) := fun l m p hp => by
  obtain ⟨h1, h2⟩ := hg l m p hp
  unfold Rg.map
  rcases hr : g l p with ⟨x, q⟩ | ⟨er, q⟩
  · obtain ⟨h3, h4⟩ := h1 x q hr
    rw [h4]
    refine ⟨fun y r h => ?_, fun er r h => (by cases h)⟩
    simp only [Sum.inl.injEq, Prod.mk.injEq] at h
    exact ⟨by omega, by dsimp only; rw [h.1, h.2]⟩
  · obtain ⟨h3, h4⟩ := h2 er q hr
    refine ⟨fun y r h => (by cases h), fun er' r h => ?_⟩
    simp only [Sum.inr.injEq, Prod.mk.injEq] at h
    obtain ⟨rfl, rfl⟩ := h
    refine ⟨h3, h4.imp id fun h => by rw [h]⟩
theorem Lg.bind {α β : Type} {f : Rg α} {g : α → Rg β} (hf : Lg f) (hg : ∀ x, Lg (g x)) : Lg (f.bind g) := fun l m p hp => by
  obtain ⟨h1, h2⟩ := hf l m p hp
  unfold Rg.bind
  rcases hr : f l p with ⟨x, q⟩ | ⟨er, q⟩
  · obtain ⟨h3, h4⟩ := h1 x q hr
    rw [h4]
    exact hg x l m q h3
  · obtain ⟨h3, h4⟩ := h2 er q hr
    refine ⟨fun y r h => (by cases h), fun er' r h => ?_⟩
    simp only [Sum.inr.injEq, Prod.mk.injEq] at h
    obtain ⟨rfl, rfl⟩ := h
    refine ⟨h3, h4.imp id fun h => by rw [h]⟩
theorem take_drop_longer (l m : List UInt8) (p k : Nat) (h : p + k ≤ l.length) : ((l ++ m).drop p).take k = (l.drop p).take k := by
  rw [List.drop_append_of_le_length (by omega), List.take_append_of_le_length (by rw [List.length_drop]; omega)]
theorem Lg.next (k : Nat) : Lg (gNext k) := fun l m p hp => by
  unfold gNext
  by_cases h : p + k ≤ l.length
  · rw [if_pos h, if_pos (by rw [List.length_append]; omega), take_drop_longer l m p k h]
    refine ⟨fun x q e => ?_, fun er q e => (by cases e)⟩
    simp only [Sum.inl.injEq, Prod.mk.injEq] at e
    exact ⟨by omega, by rw [e.1, e.2]⟩
  · rw [if_neg h]
    refine ⟨fun x q e => (by cases e), fun er q e => ?_⟩
    simp only [Sum.inr.injEq, Prod.mk.injEq] at e
    exact ⟨by omega, .inl e.1.symm⟩
theorem Lg.num (k : Nat) : Lg (gNum k) := (Lg.next k).map
theorem Lg.bool : Lg gBool := fun l m p hp => by
  obtain ⟨h1, h2⟩ := Lg.num 1 l m p hp
  unfold gBool
  rcases hr : gNum 1 l p with ⟨x, q⟩ | ⟨er, q⟩
  · obtain ⟨h3, h4⟩ := h1 x q hr
    rw [h4]
    dsimp only
    by_cases hx : 1 < x
    · rw [if_pos hx]
      refine ⟨fun x q e => (by cases e), fun er q e => ?_⟩
      simp only [Sum.inr.injEq, Prod.mk.injEq] at e
      exact ⟨by omega, .inr (by rw [e.1, e.2])⟩
    · rw [if_neg hx]
      refine ⟨fun y r e => ?_, fun er q e => (by cases e)⟩
      simp only [Sum.inl.injEq, Prod.mk.injEq] at e
      exact ⟨by omega, by rw [e.1, e.2]⟩
  · obtain ⟨h3, h4⟩ := h2 er q hr
    refine ⟨fun y r h => (by cases h), fun er' r h => ?_⟩
    simp only [Sum.inr.injEq, Prod.mk.injEq] at h
    obtain ⟨rfl, rfl⟩ := h
    exact ⟨h3, h4.imp id fun h => by rw [h]⟩
theorem Lg.int : Lg gInt := (Lg.num 4).map
theorem Lg.long : Lg gLong := (Lg.num 8).map
theorem Lg.size (most : Int) : Lg (gSize most) := fun l m p hp => by
  obtain ⟨h1, h2⟩ := Lg.int l m p hp
  unfold gSize
  rcases hr : gInt l p with ⟨x, q⟩ | ⟨er, q⟩
  · obtain ⟨h3, h4⟩ := h1 x q hr
    rw [h4]
    dsimp only
    by_cases hx : x < 0 ∨ most < x
    · rw [if_pos hx]
      refine ⟨fun x q e => (by cases e), fun er q e => ?_⟩
      simp only [Sum.inr.injEq, Prod.mk.injEq] at e
      exact ⟨by omega, .inr (by rw [e.1, e.2])⟩
    · rw [if_neg hx]
      refine ⟨fun y r e => ?_, fun er q e => (by cases e)⟩
      simp only [Sum.inl.injEq, Prod.mk.injEq] at e
      exact ⟨by omega, by rw [e.1, e.2]⟩
  · obtain ⟨h3, h4⟩ := h2 er q hr
    refine ⟨fun y r h => (by cases h), fun er' r h => ?_⟩
    simp only [Sum.inr.injEq, Prod.mk.injEq] at h
    obtain ⟨rfl, rfl⟩ := h
    exact ⟨h3, h4.imp id fun h => by rw [h]⟩
theorem Lg.buf (most : Int) : Lg (gBuf most) := fun l m p hp => by
  obtain ⟨h1, h2⟩ := Lg.size most l m p hp
  unfold gBuf
  rcases hr : gSize most l p with ⟨x, q⟩ | ⟨er, q⟩
  · obtain ⟨h3, h4⟩ := h1 x q hr
    rw [h4]
    dsimp only
    by_cases hx : q + x ≤ l.length
    · rw [if_pos hx, if_pos (by rw [List.length_append]; omega), take_drop_longer l m q x hx]
      refine ⟨fun y r e => ?_, fun er q e => (by cases e)⟩
      simp only [Sum.inl.injEq, Prod.mk.injEq] at e
      exact ⟨by omega, by rw [e.1, e.2]⟩
    · rw [if_neg hx]
      refine ⟨fun x q e => (by cases e), fun er q e => ?_⟩
      simp only [Sum.inr.injEq, Prod.mk.injEq] at e
      exact ⟨by omega, .inl e.1.symm⟩
  · obtain ⟨h3, h4⟩ := h2 er q hr
    refine ⟨fun y r h => (by cases h), fun er' r h => ?_⟩
    simp only [Sum.inr.injEq, Prod.mk.injEq] at h
    obtain ⟨rfl, rfl⟩ := h
    exact ⟨h3, h4.imp id fun h => by rw [h]⟩
theorem Lg.text (most : Int) : Lg (gText most) := fun l m p hp => by
  obtain ⟨h1, h2⟩ := Lg.buf most l m p hp
  unfold gText
  rcases hr : gBuf most l p with ⟨x, q⟩ | ⟨er, q⟩
  · obtain ⟨h3, h4⟩ := h1 x q hr
    rw [h4]
    dsimp only
    by_cases hx : Lib.validD x = true
    · rw [if_pos hx]
      refine ⟨fun y r e => ?_, fun er q e => (by cases e)⟩
      simp only [Sum.inl.injEq, Prod.mk.injEq] at e
      exact ⟨by omega, by rw [e.1, e.2]⟩
    · rw [if_neg hx]
      refine ⟨fun x q e => (by cases e), fun er q e => ?_⟩
      simp only [Sum.inr.injEq, Prod.mk.injEq] at e
      exact ⟨by omega, .inr (by rw [e.1, e.2])⟩
  · obtain ⟨h3, h4⟩ := h2 er q hr
    refine ⟨fun y r h => (by cases h), fun er' r h => ?_⟩
    simp only [Sum.inr.injEq, Prod.mk.injEq] at h
    obtain ⟨rfl, rfl⟩ := h
    exact ⟨h3, h4.imp id fun h => by rw [h]⟩
theorem Lg.count (most least : Int) : Lg (gCount most least) := fun l m p hp => by
  obtain ⟨h1, h2⟩ := Lg.size most l m p hp
  unfold gCount
  rcases hr : gSize most l p with ⟨x, q⟩ | ⟨er, q⟩
  · obtain ⟨h3, h4⟩ := h1 x q hr
    rw [h4]
    dsimp only
    by_cases hx : 1 ≤ least ∧ ((l.length - q : Nat) : Int) / least < x
    · rw [if_pos hx]
      refine ⟨fun x q e => (by cases e), fun er q e => ?_⟩
      simp only [Sum.inr.injEq, Prod.mk.injEq] at e
      exact ⟨by omega, .inl e.1.symm⟩
    · have hx2 : ¬ (1 ≤ least ∧ (((l ++ m).length - q : Nat) : Int) / least < x) := fun ⟨ha, hb⟩ => hx ⟨ha, by
        have : ((l.length - q : Nat) : Int) / least ≤ (((l ++ m).length - q : Nat) : Int) / least := Int.ediv_le_ediv (by omega) (by rw [List.length_append]; omega)
        omega⟩
      rw [if_neg hx, if_neg hx2]
      refine ⟨fun y r e => ?_, fun er q e => (by cases e)⟩
      simp only [Sum.inl.injEq, Prod.mk.injEq] at e
      exact ⟨by omega, by rw [e.1, e.2]⟩
  · obtain ⟨h3, h4⟩ := h2 er q hr
    refine ⟨fun y r h => (by cases h), fun er' r h => ?_⟩
    simp only [Sum.inr.injEq, Prod.mk.injEq] at h
    obtain ⟨rfl, rfl⟩ := h
    exact ⟨h3, h4.imp id fun h => by rw [h]⟩
theorem Lg.many {α : Type} {g : Rg α} (hg : Lg g) : ∀ n, Lg (gMany g n)
  | 0 => Lg.ret _
  | n + 1 => hg.bind fun _ => (Lg.many hg n).map
theorem Lg.get {α : Type} {g : Rg α} (most least : Int) (hg : Lg g) : Lg (gGet most least g) := (Lg.count most least).bind fun n => Lg.many hg n
theorem Lg.fail (e : Int) : Lg (gFail e) := fun l m p hp => by
  unfold gFail
  by_cases h : e = 0
  · rw [if_pos h]
    refine ⟨fun y r e => ?_, fun er q e => (by cases e)⟩
    simp only [Sum.inl.injEq, Prod.mk.injEq] at e
    obtain ⟨_, rfl⟩ := e
    exact ⟨hp, rfl⟩
  · rw [if_neg h]
    refine ⟨fun x q e => (by cases e), fun er q e => ?_⟩
    simp only [Sum.inr.injEq, Prod.mk.injEq] at e
    obtain ⟨rfl, rfl⟩ := e
    exact ⟨h, .inr rfl⟩
theorem Lg.step (s : St) (hs : s.k ≠ 9) : Lg (stepR s) := by
  unfold stepR
  repeat' split
  · exact Lg.bool.map
  · exact (Lg.num 1).map
  · exact Lg.int.map
  · exact Lg.long.map
  · exact (Lg.buf _).map
  · exact (Lg.text _).map
  · exact (Lg.count _ _).map
  · exact (Lg.get _ _ (Lg.text _)).map
  · exact (Lg.fail _).map
  · exact Lg.ret _

/-- of longer bytes a play is the same, or it ran out of bytes -/
theorem play_longer : ∀ (S : List St), (∀ s ∈ S, s.k ≠ 9) → ∀ (l m : List UInt8) (p : Nat), p ≤ l.length →
    (∀ q, (play S l p).2 = .inl q → play S (l ++ m) p = play S l p) ∧ (∀ er q, (play S l p).2 = .inr (er, q) → er ≠ 0 ∧ (er = 20 ∨ play S (l ++ m) p = play S l p))
  | [], _, l, m, p, _ => ⟨fun _ _ => rfl, fun _ _ h => by cases h⟩
  | s :: S, hS, l, m, p, hp => by
    obtain ⟨h1, h2⟩ := Lg.step s (hS s (by simp)) l m p hp
    rcases hr : stepR s l p with ⟨g, q⟩ | ⟨er, q⟩
    · obtain ⟨h3, h4⟩ := h1 g q hr
      obtain ⟨h5, h6⟩ := play_longer S (fun t ht => hS t (by simp [ht])) l m q h3
      simp only [play, hr, h4]
      refine ⟨fun r h => by rw [h5 r h], fun er r h => ?_⟩
      obtain ⟨h7, h8⟩ := h6 er r h
      exact ⟨h7, h8.imp id fun h => by rw [h]⟩
    · obtain ⟨h3, h4⟩ := h2 er q hr
      simp only [play, hr]
      refine ⟨fun r h => (by cases h), fun er' r h => ?_⟩
      simp only [Sum.inr.injEq, Prod.mk.injEq] at h
      obtain ⟨rfl, rfl⟩ := h
      exact ⟨h3, h4.imp id fun h => by rw [h]⟩
end Go.Proofs.YtbegingiedbldaaDoor
