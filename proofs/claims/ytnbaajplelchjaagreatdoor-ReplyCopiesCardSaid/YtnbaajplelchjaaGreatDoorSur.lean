/- Readings' errors, readings on: of any layer. (printed by gen_sur.py) -/
import Derived.Test.YtnbaajplelchjaaGreatDoorSuw
import Derived.Test.YtnbaajplelchjaaGreatDoorAtb
import Derived.Test.YtnbaajplelchjaaGreatDoorJrb
import Derived.Test.YtnbaajplelchjaaGreatDoorJtb
set_option linter.unusedVariables false
set_option linter.unusedSimpArgs false
namespace Go.Proofs.YtnbaajplelchjaaGreatDoor
open Go.RowKit

theorem Rdr.set {w : World} {B : Nat → Prop} {R c p g : Nat} {A : Option Addr} {l : List UInt8} (h : Rdr w B R A c l p) (hg : R ≠ g) (hB : ¬ B g) (i : Nat) (v : Value) : Rdr (w.setCell ⟨g, i, none⟩ v) B R A c l p :=
  h.kp (Kp.setCell ⟨g, i, none⟩ v) (by simpa using hg) (by simpa using hB)
/-- a reading's errors are none of them 0 -/
def Sure {α : Type} (g : Rg α) : Prop := ∀ l p e q, g l p = .inr (e, q) → e ≠ 0
theorem Sure.bind {α β : Type} {f : Rg α} {g : α → Rg β} (hf : Sure f) (hg : ∀ x, Sure (g x)) : Sure (f.bind g) := fun l p e q h => by
  unfold Rg.bind at h
  rcases hr : f l p with ⟨x, q1⟩ | ⟨e1, q1⟩
  · rw [hr] at h; exact hg x _ _ _ _ h
  · rw [hr] at h; injection h with h; injection h with h1 h2; subst h1; exact hf _ _ _ _ hr
theorem Sure.map {α β : Type} {f : α → β} {g : Rg α} (hg : Sure g) : Sure (g.map f) := fun l p e q h => by
  unfold Rg.map at h
  rcases hr : g l p with ⟨x, q1⟩ | ⟨e1, q1⟩
  · rw [hr] at h; cases h
  · rw [hr] at h; injection h with h; injection h with h1 h2; subst h1; exact hg _ _ _ _ hr
theorem sure_next (k : Nat) : Sure (gNext k) := fun l p e q h => by
  unfold gNext at h
  split at h
  · cases h
  · injection h with h; injection h with h1 _; subst h1; decide
theorem sure_num (k : Nat) : Sure (gNum k) := (sure_next k).map
theorem sure_int : Sure gInt := (sure_num 4).map
theorem sure_long : Sure gLong := (sure_num 8).map
theorem sure_bool : Sure gBool := fun l p e q h => by
  unfold gBool at h
  rcases hr : gNum 1 l p with ⟨x, q1⟩ | ⟨e1, q1⟩
  · rw [hr] at h
    dsimp only at h
    split at h
    · injection h with h; injection h with h1 _; subst h1; decide
    · cases h
  · rw [hr] at h; injection h with h; injection h with h1 _; subst h1; exact sure_num 1 _ _ _ _ hr
theorem sure_size (m : Int) : Sure (gSize m) := fun l p e q h => by
  unfold gSize at h
  rcases hr : gInt l p with ⟨x, q1⟩ | ⟨e1, q1⟩
  · rw [hr] at h
    dsimp only at h
    split at h
    · injection h with h; injection h with h1 _; subst h1; decide
    · cases h
  · rw [hr] at h; injection h with h; injection h with h1 _; subst h1; exact sure_int _ _ _ _ hr
theorem sure_buf (m : Int) : Sure (gBuf m) := fun l p e q h => by
  unfold gBuf at h
  rcases hr : gSize m l p with ⟨x, q1⟩ | ⟨e1, q1⟩
  · rw [hr] at h
    dsimp only at h
    split at h
    · cases h
    · injection h with h; injection h with h1 _; subst h1; decide
  · rw [hr] at h; injection h with h; injection h with h1 _; subst h1; exact sure_size m _ _ _ _ hr
theorem sure_text (m : Int) : Sure (gText m) := fun l p e q h => by
  unfold gText at h
  rcases hr : gBuf m l p with ⟨x, q1⟩ | ⟨e1, q1⟩
  · rw [hr] at h
    dsimp only at h
    split at h
    · cases h
    · injection h with h; injection h with h1 _; subst h1; decide
  · rw [hr] at h; injection h with h; injection h with h1 _; subst h1; exact sure_buf m _ _ _ _ hr
theorem sure_count (m k : Int) : Sure (gCount m k) := fun l p e q h => by
  unfold gCount at h
  rcases hr : gSize m l p with ⟨x, q1⟩ | ⟨e1, q1⟩
  · rw [hr] at h
    dsimp only at h
    split at h
    · injection h with h; injection h with h1 _; subst h1; decide
    · cases h
  · rw [hr] at h; injection h with h; injection h with h1 _; subst h1; exact sure_size m _ _ _ _ hr
theorem Sure.many {α : Type} {g : Rg α} (hg : Sure g) (n : Nat) : Sure (gMany g n) := by
  induction n with
  | zero => intro l p e q h; cases h
  | succ n ih => exact Sure.bind hg fun x => Sure.map ih
theorem Sure.get {α : Type} {g : Rg α} (hg : Sure g) (m k : Int) : Sure (gGet m k g) := Sure.bind (sure_count m k) fun n => hg.many n
/-- the error of a reading of all bytes -/
def allE {α : Type} (l : List UInt8) (r : (α × Nat) ⊕ (Int × Nat)) : Int := match r with | .inl (_, q) => if q < l.length then 21 else 0 | .inr (e, _) => e
def rOf {α : Type} : (α × Nat) ⊕ (Int × Nat) → Nat ⊕ (Int × Nat)
  | .inl (_, q) => .inl q
  | .inr e => .inr e
theorem rAllE_of {α : Type} {g : Rg α} (hg : Sure g) (l : List UInt8) (p : Nat) : rAllE l (rOf (g l p)) = allE l (g l p) := by
  rcases hr : g l p with ⟨x, q⟩ | ⟨e, q⟩
  · unfold rAllE allE rOf rE rAt
    by_cases h : q < l.length <;> simp [h]
  · have h := hg _ _ _ _ hr
    unfold rAllE allE rOf rE rAt
    simp [h]
theorem bs_size (x : List UInt8) : (bs x).size = x.length := by simp [bs, ByteArray.size]
/-- what a reading hands back is no longer than the bytes -/
theorem gText_buf {m : Int} {l x : List UInt8} {p q : Nat} (h : gText m l p = .inl (x, q)) : gBuf m l p = .inl (x, q) := by
  unfold gText at h
  rcases hr : gBuf m l p with ⟨y, q1⟩ | ⟨e1, q1⟩
  · rw [hr] at h
    dsimp only at h
    split at h
    · exact h
    · cases h
  · rw [hr] at h; cases h
theorem gText_fit {m : Int} {l x : List UInt8} {p q : Nat} (h : gText m l p = .inl (x, q)) : x.length ≤ l.length := by have := gBuf_inl (gText_buf h); omega
/-- readings on, one behind the other -/
def Rs (α : Type) : Type := List UInt8 → (Nat × Int) → α × (Nat × Int)
def Rs.bind {α β : Type} (f : Rs α) (k : α → Rs β) : Rs β := fun l s => k (f l s).1 l (f l s).2
def Rs.map {α β : Type} (f : α → β) (g : Rs α) : Rs β := fun l s => (f (g l s).1, (g l s).2)
/-- a reading on does as the reading does -/
structure Sim {α : Type} (g : Rg α) (f : Rs α) : Prop where
  yes : ∀ l p x q, g l p = .inl (x, q) → f l (p, 0) = (x, (q, 0))
  no : ∀ l p er q, g l p = .inr (er, q) → (f l (p, 0)).2 = (q, er)
  dead : ∀ l p e, e ≠ 0 → (f l (p, e)).2 = (p, e)
  sure : Sure g
theorem Sim.step {α : Type} {g : Rg α} (d : α) (hg : Sure g) : Sim g (stepS g d) :=
  ⟨fun l p x q h => stepS_yes d h, fun l p er q h => by rw [stepS_no d h], fun l p e he => by rw [stepS_dead g d l he], hg⟩
theorem Sim.bind {α β : Type} {g : Rg α} {f : Rs α} {k : α → Rg β} {k' : α → Rs β} (h : Sim g f) (hk : ∀ x, Sim (k x) (k' x)) : Sim (g.bind k) (f.bind k') := by
  refine ⟨fun l p x q hr => ?_, fun l p er q hr => ?_, fun l p e he => ?_, h.sure.bind fun x => (hk x).sure⟩
  · obtain ⟨y, q1, h1, h2⟩ := bind_inl hr
    unfold Rs.bind
    rw [h.yes _ _ _ _ h1]
    exact (hk y).yes _ _ _ _ h2
  · unfold Rg.bind at hr
    unfold Rs.bind
    rcases h1 : g l p with ⟨y, q1⟩ | ⟨e1, q1⟩
    · rw [h1] at hr
      rw [h.yes _ _ _ _ h1]
      exact (hk y).no _ _ _ _ hr
    · rw [h1] at hr
      injection hr with hr
      injection hr with h2 h3
      subst h2 h3
      rw [h.no _ _ _ _ h1]
      exact (hk _).dead _ _ _ (h.sure _ _ _ _ h1)
  · unfold Rs.bind
    rw [h.dead _ _ _ he]
    exact (hk _).dead _ _ _ he
theorem Sim.map {α β : Type} {g : Rg α} {f : Rs α} {k : α → β} (h : Sim g f) : Sim (g.map k) (f.map k) := by
  refine ⟨fun l p x q hr => ?_, fun l p er q hr => ?_, fun l p e he => h.dead l p e he, h.sure.map⟩
  · obtain ⟨y, h1, rfl⟩ := map_inl hr
    unfold Rs.map
    rw [h.yes _ _ _ _ h1]
  · unfold Rg.map at hr
    unfold Rs.map
    rcases h1 : g l p with ⟨y, q1⟩ | ⟨e1, q1⟩
    · rw [h1] at hr; cases hr
    · rw [h1] at hr
      injection hr with hr
      injection hr with h2 h3
      subst h2 h3
      exact h.no _ _ _ _ h1
theorem RR.set {w : World} {base R c p g : Nat} {A : Option Addr} {l : List UInt8} {e : Int} (h : RR w base R A c l p e) (hg : R ≠ g) (hb : base ≤ g) (i : Nat) (v : Value) : RR (w.setCell ⟨g, i, none⟩ v) base R A c l p e :=
  h.kp (Kp.setCell ⟨g, i, none⟩ v) (by simpa using hg) (by simpa using hb)
theorem RR.low {w : World} {base R c p : Nat} {A : Option Addr} {l : List UInt8} {e : Int} (h : RR w base R A c l p e) : base ≤ w.heap.size := Nat.le_of_lt (Nat.lt_of_le_of_lt h.old h.lt)
theorem wpAny_takeL {P : Program} {md : Region.Mode} {l : List Oper} {Q : Exit → Act → World → Prop} {i : Nat} {oi : Oper} (v : Value) {fuel : Nat} {listed : Array Bool} {a : Act} {w : World} (hi : l[i]? = some oi)
    (hs : Region.noSelect l.toArray = true) (hf : Region.free md l.toArray listed i = true) (hr : (Region.ready md l.toArray listed).contains i = true)
    (hQ : ∀ c a w, Q (.panic c) (a.put oi.dst v) w → Q (.panic c) a w) (hy : Yields P l.toArray oi v a)
    (h : wpAny P md l.toArray Q fuel (listed.setIfInBounds i true) (a.put oi.dst v) w) : wpAny P md l.toArray Q (fuel + 1) listed a w :=
  wpAny_take (by simpa using hi) hs hf hr hQ hy h
/-- a reading on, as a contract -/
theorem cLong (base R : Nat) (A : Option Addr) (c : Nat) (l : List UInt8) (s : Nat × Int) (w : World) (r : Int × (Nat × Int)) (hr : r = stepS gLong 0 l s) (h : RR w base R A c l s.1 s.2) :
    Calls Tryz.prog 54 #[.pointer (some ⟨R, 0, none⟩)] w fun e w' => e = .returned (.int .i64 r.1) ∧ Kp [R] w w' ∧ RR w' base R A c l r.2.1 r.2.2 :=
  (sLong base R A c l s.1 s.2 w h).mono fun e w' ⟨⟨v, h1, h2⟩, h3, h4⟩ => by rw [hr]; exact ⟨by rw [h1]; exact congrArg Ending.returned h2, h3, h4⟩
theorem cInt (base R : Nat) (A : Option Addr) (c : Nat) (l : List UInt8) (s : Nat × Int) (w : World) (r : Int × (Nat × Int)) (hr : r = stepS gInt 0 l s) (h : RR w base R A c l s.1 s.2) :
    Calls Tryz.prog 53 #[.pointer (some ⟨R, 0, none⟩)] w fun e w' => e = .returned (.int .i32 r.1) ∧ Kp [R] w w' ∧ RR w' base R A c l r.2.1 r.2.2 :=
  (sInt base R A c l s.1 s.2 w h).mono fun e w' ⟨⟨v, h1, h2⟩, h3, h4⟩ => by rw [hr]; exact ⟨by rw [h1]; exact congrArg Ending.returned h2, h3, h4⟩
theorem cBool (base R : Nat) (A : Option Addr) (c : Nat) (l : List UInt8) (s : Nat × Int) (w : World) (r : Bool × (Nat × Int)) (hr : r = stepS gBool false l s) (h : RR w base R A c l s.1 s.2) :
    Calls Tryz.prog 158 #[.pointer (some ⟨R, 0, none⟩)] w fun e w' => e = .returned (.bool r.1) ∧ Kp [R] w w' ∧ RR w' base R A c l r.2.1 r.2.2 :=
  (sBool base R A c l s.1 s.2 w h).mono fun e w' ⟨⟨v, h1, h2⟩, h3, h4⟩ => by rw [hr]; exact ⟨by rw [h1]; exact congrArg Ending.returned h2, h3, h4⟩
theorem cText (base R : Nat) (A : Option Addr) (c : Nat) (l : List UInt8) (most : Int) (s : Nat × Int) (w : World) (r : List UInt8 × (Nat × Int)) (hr : r = stepS (gText most) [] l s) (h : RR w base R A c l s.1 s.2) :
    Calls Tryz.prog 68 #[.pointer (some ⟨R, 0, none⟩), .int .i64 most] w fun e w' => e = .returned (.string ⟨r.1.toArray⟩) ∧ Kp [R] w w' ∧ RR w' base R A c l r.2.1 r.2.2 :=
  (sText base R A c l s.1 s.2 w most h h.low).mono fun e w' ⟨⟨v, h1, h2⟩, h3, h4⟩ => by rw [hr]; exact ⟨by rw [h1]; exact congrArg Ending.returned h2, h3, h4⟩
theorem cBuf (base R : Nat) (A : Option Addr) (c : Nat) (l : List UInt8) (most : Int) (s : Nat × Int) (w : World) (r : List UInt8 × (Nat × Int)) (hr : r = stepS (gBuf most) [] l s) (h : RR w base R A c l s.1 s.2) :
    Calls Tryz.prog 113 #[.pointer (some ⟨R, 0, none⟩), .int .i64 most, .bool false] w fun e w' => ∃ A' c', e = .returned (.slice A' r.1.length c') ∧ w'.ownsRow w.heap.size 5 1 (.slice A' r.1.length c') r.1.length (bcells r.1) ∧ Kp [R] w w' ∧ RR w' base R A c l r.2.1 r.2.2 :=
  (sBuf base R A c l s.1 s.2 w most h h.low).mono fun e w' ⟨⟨v, h1, A', c', h2, h5⟩, h3, h4⟩ => by rw [hr]; exact ⟨A', c', by rw [h1, h2], h2 ▸ h5, h3, h4⟩
end Go.Proofs.YtnbaajplelchjaaGreatDoor
