/- The document's reader: readings on; lists of permissions, of identities. (printed by gen_h2.py) -/
import Derived.Test.YtpjjnmdfgcfnmaaGreatDoorOqp
import Derived.Test.YtpjjnmdfgcfnmaaGreatDoorOh1
set_option linter.unusedVariables false
set_option linter.unusedSimpArgs false
namespace Go.Proofs.YtpjjnmdfgcfnmaaGreatDoor
open Go.RowKit

/-- readings on, one behind the other -/
def Rs (α : Type) : Type := List UInt8 → (Nat × Int) → α × (Nat × Int)
def Rs.bind {α β : Type} (f : Rs α) (k : α → Rs β) : Rs β := fun l s => k (f l s).1 l (f l s).2
def Rs.map {α β : Type} (f : α → β) (g : Rs α) : Rs β := fun l s => (f (g l s).1, (g l s).2)
def manyS {α : Type} (f : Rs α) : Nat → Rs (List α)
  | 0 => fun _ s => ([], s)
  | n + 1 => f.bind fun x => (manyS f n).map fun r => x :: r
/-- a reading on does as the reading does -/
structure Sim {α : Type} (g : Rg α) (f : Rs α) : Prop where
  yes : ∀ l p x q, g l p = .inl (x, q) → f l (p, 0) = (x, (q, 0))
  no : ∀ l p er q, g l p = .inr (er, q) → (f l (p, 0)).2 = (q, er)
  dead : ∀ l p e, e ≠ 0 → (f l (p, e)).2 = (p, e)
  sure : Sure g
theorem Sim.step {α : Type} {g : Rg α} (d : α) (hg : Sure g) : Sim g (stepS g d) :=
  ⟨fun l p x q h => stepS_yes d h, fun l p er q h => by rw [stepS_no d h], fun l p e he => by rw [stepS_dead g d l he], hg⟩
theorem Sim.bind {α β : Type} {g : Rg α} {f : Rs α} {k : α → Rg β} {k' : α → Rs β} (h : Sim g f) (hk : ∀ x, Sim (k x) (k' x)) : Sim (g.bind k) (f.bind k') := by
  refine ⟨fun l p x q hr => ?_, fun l p er q hr => ?_, fun l p e he => ?_, h.sure.bind fun x => (hk x).sure⟩
  · obtain ⟨y, q1, h1, h2⟩ := bind_inl hr
    unfold Rs.bind
    rw [h.yes _ _ _ _ h1]
    exact (hk y).yes _ _ _ _ h2
  · unfold Rg.bind at hr
    unfold Rs.bind
    rcases h1 : g l p with ⟨y, q1⟩ | ⟨e1, q1⟩
    · rw [h1] at hr
      rw [h.yes _ _ _ _ h1]
      exact (hk y).no _ _ _ _ hr
    · rw [h1] at hr
      injection hr with hr
      injection hr with h2 h3
      subst h2 h3
      rw [h.no _ _ _ _ h1]
      exact (hk _).dead _ _ _ (h.sure _ _ _ _ h1)
  · unfold Rs.bind
    rw [h.dead _ _ _ he]
    exact (hk _).dead _ _ _ he
theorem Sim.map {α β : Type} {g : Rg α} {f : Rs α} {k : α → β} (h : Sim g f) : Sim (g.map k) (f.map k) := by
  refine ⟨fun l p x q hr => ?_, fun l p er q hr => ?_, fun l p e he => h.dead l p e he, h.sure.map⟩
  · obtain ⟨y, h1, rfl⟩ := map_inl hr
    unfold Rs.map
    rw [h.yes _ _ _ _ h1]
  · unfold Rg.map at hr
    unfold Rs.map
    rcases h1 : g l p with ⟨y, q1⟩ | ⟨e1, q1⟩
    · rw [h1] at hr; cases hr
    · rw [h1] at hr
      injection hr with hr
      injection hr with h2 h3
      subst h2 h3
      exact h.no _ _ _ _ h1
theorem Sim.many {α : Type} {g : Rg α} {f : Rs α} (h : Sim g f) (n : Nat) : Sim (gMany g n) (manyS f n) := by
  induction n with
  | zero => exact ⟨(fun l p x q hr => by cases hr; rfl), (fun l p er q hr => by cases hr), (fun l p e _ => rfl), (fun l p e q hr => by cases hr)⟩
  | succ n ih => exact h.bind fun x => ih.map
def idS : Rs (ByteArray × ByteArray) := Rs.bind (stepS (gText 256) []) fun s => Rs.map (fun i => (bs s, bs i)) (stepS (gText 256) [])
theorem sim_id : Sim gIdO idS := (Sim.step [] (sure_text _)).bind fun _ => (Sim.step [] (sure_text _)).map
def aclS : Rs AclT := Rs.bind (stepS gInt 0) fun z => Rs.map (fun i => (z, i)) idS
theorem sim_acl : Sim gAcl aclS := (Sim.step 0 sure_int).bind fun _ => sim_id.map
/-- what is read in all, when ds has been -/
def After (ds : List AclT) (r x : List AclT × (Nat × Int)) : Prop := r.2 = x.2 ∧ (x.2.2 = 0 → r.1 = ds ++ x.1)
theorem After.step {ds : List AclT} {m p q : Nat} {a : AclT} {l : List UInt8} {r : List AclT × (Nat × Int)} (hA : After ds r (stepS (gMany gAcl (m + 1)) [] l (p, 0))) (h : gAcl l p = .inl (a, q)) : After (ds ++ [a]) r (stepS (gMany gAcl m) [] l (q, 0)) := by
  rcases hr : gMany gAcl m l q with ⟨x, q'⟩ | ⟨er, q'⟩
  · rw [stepS_yes [] (show gMany gAcl (m + 1) l p = .inl (a :: x, q') by rw [gMany_succ, h]; dsimp only; rw [hr])] at hA
    rw [stepS_yes [] hr]
    exact ⟨hA.1, fun h0 => by rw [hA.2 h0]; simp⟩
  · rw [stepS_no [] (show gMany gAcl (m + 1) l p = .inr (er, q') by rw [gMany_succ, h]; dsimp only; rw [hr])] at hA
    rw [stepS_no [] hr]
    exact ⟨hA.1, fun h0 => absurd h0 ((sure_aclO.many m) _ _ _ _ hr)⟩

/-- how GetAcl ends -/
def AclEnd (base R : Nat) (A : Option Addr) (c : Nat) (l : List UInt8) (s : Nat × Int) (w : World) (e : Ending) (w' : World) : Prop :=
  ∃ r, r = stepS (gGet 16 12 gAcl) [] l s ∧ (∃ L v, e = .returned v ∧ vAcls w.heap.size L v w' ∧ (r.2.2 = 0 → L = r.1)) ∧ Kp [R] w w' ∧ RR w' base R A c l r.2.1 r.2.2

set_option maxRecDepth 100000 in
set_option maxHeartbeats 2000000 in
theorem sGetAcl (base R : Nat) (A : Option Addr) (c : Nat) (l : List UInt8) (s : Nat × Int) (w : World) (h : RR w base R A c l s.1 s.2) :
    Calls Tryz.prog 92 #[.pointer (some ⟨R, 0, none⟩)] w (AclEnd base R A c l s w) := by
  obtain ⟨i0, hi0, hz0, hz1, hz2⟩ := info_parts acl_info
  have hRl := h.lt
  have hbo := h.old
  have hcnt := sCount base R A c l s.1 s.2 w 16 12 h
  have hN : ∃ N : Nat, N = (stepS (gCount 16 12) 0 l s).1 ∧ N ≤ 2147483647 := ⟨_, rfl, by
    unfold stepS
    by_cases he : s.2 = 0
    · rw [if_pos he]
      rcases hr : gCount 16 12 l s.1 with ⟨n, q⟩ | ⟨er, q⟩
      · exact gCount_bd hr
      · exact Nat.zero_le _
    · rw [if_neg he]; exact Nat.zero_le _⟩
  obtain ⟨N, hN, hNb⟩ := hN
  obtain ⟨s1, hs1⟩ : ∃ s1, s1 = (stepS (gCount 16 12) 0 l s).2 := ⟨_, rfl⟩
  have hcnt' : Calls Tryz.prog 95 #[.pointer (some ⟨R, 0, none⟩), .int .i64 16, .int .i64 12] w fun e w' => e = .returned (.int .i64 N) ∧ Kp [R] w w' ∧ RR w' base R A c l s1.1 s1.2 :=
    hcnt.mono fun e w' ⟨⟨v, h1, h2⟩, h3, h4⟩ => ⟨by rw [h1, hN]; exact congrArg Ending.returned h2, h3, by rw [hs1]; exact h4⟩
  -- what is read on from there
  have hgood : (s1.2 ≠ 0 → stepS (gGet 16 12 gAcl) [] l s = ([], s1) ∧ N = 0) ∧ (s1.2 = 0 → stepS (gGet 16 12 gAcl) [] l s = stepS (gMany gAcl N) [] l s1) := by
    obtain ⟨p, e⟩ := s
    by_cases he : e = 0
    · subst he
      rcases hr : gCount 16 12 l p with ⟨n, q⟩ | ⟨er, q⟩
      · rw [stepS_yes 0 hr] at hN hs1
        dsimp only at hN hs1
        subst hN hs1
        refine ⟨fun h => absurd rfl h, fun _ => ?_⟩
        unfold stepS
        rw [if_pos rfl, if_pos rfl]
        unfold gGet Rg.bind
        dsimp only
        rw [hr]
      · have he := sure_count _ _ _ _ _ _ hr
        rw [stepS_no 0 hr] at hN hs1
        dsimp only at hN hs1
        subst hN hs1
        refine ⟨fun _ => ⟨?_, rfl⟩, fun h => absurd h he⟩
        refine stepS_no [] ?_
        unfold gGet Rg.bind
        rw [hr]
    · rw [stepS_dead _ _ _ he] at hN hs1
      dsimp only at hN hs1
      subst hN hs1
      exact ⟨fun _ => ⟨stepS_dead _ _ _ he, rfl⟩, fun h => absurd h he⟩
  have HG := Lib.hid hgood
  have HC := Lib.hid hcnt'
  obtain ⟨r, hr⟩ : ∃ r, r = stepS (gGet 16 12 gAcl) [] l s := ⟨_, rfl⟩
  rw [← hr] at HG
  have HR0 := Lib.hid hr
  clear hcnt hN hs1 hcnt' hgood h hr
  go_enter Tryz.func92, Tryz.ntmps92
  go_wp2_with (go_at_call 95; refine HC.out.mono ?_; rintro e w1 ⟨rfl, hk, hR⟩; have hz1' := hk.size; have HK := Lib.hid hk; have HR := Lib.hid hR; clear hk hR)
  go_loopw [3, 4] (fun u i wr => ∃ (k : Nat) (t : Nat × Int) (ds : List AclT), k ≤ N ∧ i = .int .i64 ((N : Int) - k) ∧ ds.length = k ∧ wr.ownsRow w.heap.size 104 3 u k (aclCells ds) ∧ Hid ((t.2 = 0 → After ds r (stepS (gMany gAcl (N - k)) [] l t)) ∧ (t.2 ≠ 0 → r.2 = t)) ∧ Kp [R] w wr ∧ RR wr base R A c l t.1 t.2) (fun _ i _ => (intOf i).toNat)
  case atStart =>
    refine ⟨0, s1, [], Nat.zero_le _, by simp, rfl, World.ownsRow_nil _ _ _ _, ⟨fun h => ?_, fun h => ?_⟩, HK.out, HR.out⟩
    · rw [HG.out.2 h]; exact ⟨rfl, fun _ => rfl⟩
    · rw [(HG.out.1 h).1]
  case round =>
    clear HK HR
    obtain ⟨k, t, ds, hk, rfl, hds, hown, HT, hkp, hR⟩ := hrel
    obtain ⟨c0, c1, c2, f1, f2⟩ := hR.cells
    have HOWN := Lib.hid hown
    have HKP := Lib.hid hkp
    have HRR := Lib.hid hR
    have HD := Lib.hid hds
    have hsz := hkp.size
    by_cases he : t.2 = 0
    rotate_left
    · have hb : (t.2 == 0) = false := by simp [he]
      have hrt := HT.out.2 he
      have HE := Lib.hid he
      have HRT := Lib.hid hrt
      obtain ⟨A', c', rfl⟩ := slice_form HOWN.out
      clear he hrt hR hown hkp hds HT
      by_cases hn : (0 : Int) < (N : Int) - k
      all_goals
        go_wp2
        go_ret
        exact ⟨r, HR0.out, ⟨ds, _, rfl, ⟨A', c', by rw [HD.out]; rfl, by rw [HD.out]; exact HOWN.out⟩, fun h => absurd (by rw [← HRT.out]; exact h) HE.out⟩, HKP.out, by rw [HRT.out]; exact HRR.out⟩
    · rw [he] at c2
      by_cases hn : k < N
      rotate_left
      · have hkN : k = N := by omega
        have hrt := HT.out.1 he
        rw [show N - k = 0 by omega, show stepS (gMany gAcl 0) [] l t = ([], t) by unfold stepS; rw [if_pos he]; exact congrArg (fun e => (([] : List AclT), (t.1, e))) he.symm] at hrt
        have HRT : Hid (r = (ds, t)) := by unfold Hid; exact Prod.ext (by rw [hrt.2 he]; simp) hrt.1
        obtain ⟨A', c', rfl⟩ := slice_form HOWN.out
        have hn' : ¬ (0 : Int) < (N : Int) - k := by omega
        clear he hrt hR hown hkp hds HT hkN hn
        go_wp2
        go_ret
        exact ⟨r, HR0.out, ⟨ds, _, rfl, ⟨A', c', by rw [HD.out]; rfl, by rw [HD.out]; exact HOWN.out⟩, fun _ => by rw [HRT.out]⟩, HKP.out, by rw [HRT.out]; exact HRR.out⟩
      · have hn' : (0 : Int) < (N : Int) - k := by omega
        obtain ⟨m, hm⟩ : ∃ m, N - k = m + 1 := ⟨N - k - 1, by omega⟩
        -- one permission read on
        obtain ⟨r1, hr1⟩ : ∃ r1, r1 = stepS gInt 0 l t := ⟨_, rfl⟩
        obtain ⟨r2, hr2⟩ : ∃ r2, r2 = stepS (gText 256) [] l r1.2 := ⟨_, rfl⟩
        obtain ⟨r3, hr3⟩ : ∃ r3, r3 = stepS (gText 256) [] l r2.2 := ⟨_, rfl⟩
        have HNEXT : Hid ((r3.2.2 = 0 → After (ds ++ [(r1.1, bs r2.1, bs r3.1)]) r (stepS (gMany gAcl m) [] l r3.2)) ∧ (r3.2.2 ≠ 0 → r.2 = r3.2)) := by
          have ha : aclS l t = ((r1.1, bs r2.1, bs r3.1), r3.2) := by rw [hr3, hr2, hr1]; rfl
          have hrt := HT.out.1 he
          rw [hm] at hrt
          obtain ⟨tp, te⟩ := t
          dsimp only at he
          subst he
          rcases hg : gAcl l tp with ⟨a, q1⟩ | ⟨er, q1⟩
          · have h1 := sim_acl.yes _ _ _ _ hg
            rw [h1] at ha
            injection ha with ha1 ha2
            rw [← ha1, ← ha2]
            refine ⟨fun _ => ?_, fun h => absurd rfl h⟩
            exact hrt.step hg
          · have h1 := sim_acl.no _ _ _ _ hg
            rw [ha] at h1
            dsimp only at h1
            have hne := sure_aclO _ _ _ _ hg
            rw [h1]
            refine ⟨fun h => absurd h hne, fun _ => ?_⟩
            rw [hrt.1, stepS_no [] (show gMany gAcl (m + 1) l tp = .inr (er, q1) by rw [gMany_succ, hg])]
        have hb2 : Below wr.heap.size wr (wr.alloc (.cells #[.int .i32 0, .string ⟨#[]⟩, .string ⟨#[]⟩] 104)) := (Below.refl _ _).alloc (Nat.le_refl _) _
        have HXA : Hid (Blk (wr.alloc (.cells #[.int .i32 0, .string ⟨#[]⟩, .string ⟨#[]⟩] 104)) wr.heap.size 104 #[.int .i32 0, .string ⟨#[]⟩, .string ⟨#[]⟩]) := Blk.new _ _ _
        have HOWN1 := Lib.hid (hown.alloc (.cells #[.int .i32 0, .string ⟨#[]⟩, .string ⟨#[]⟩] 104))
        have HOB : Hid (∀ x, u3.ownBlock = some x → w.heap.size ≤ x ∧ x < wr.heap.size) := hown.lt
        have HI := Lib.hid (sInt base R A c l t.1 t.2 _ (hR.later hb2))
        have HKP1 := Lib.hid (hkp.later hb2)
        have hbw := hR.low
        have HR1E := Lib.hid hr1
        have HR2E := Lib.hid hr2
        have HR3E := Lib.hid hr3
        have hI' : Calls Tryz.prog 61 #[.pointer (some ⟨R, 0, none⟩)] (wr.alloc (.cells #[.int .i32 0, .string ⟨#[]⟩, .string ⟨#[]⟩] 104)) fun e w' => e = .returned (.int .i32 r1.1) ∧ Kp [R] (wr.alloc (.cells #[.int .i32 0, .string ⟨#[]⟩, .string ⟨#[]⟩] 104)) w' ∧ RR w' base R A c l r1.2.1 r1.2.2 :=
          HI.out.mono fun e w' ⟨⟨v, h1, h2⟩, h3, h4⟩ => by rw [hr1]; exact ⟨by rw [h1]; exact congrArg Ending.returned h2, h3, h4⟩
        have HI' := Lib.hid hI'
        have HT' : Hid (∀ (q : Nat × Int) (r' : List UInt8 × (Nat × Int)) W, r' = stepS (gText 256) [] l q → RR W base R A c l q.1 q.2 → Calls Tryz.prog 90 #[.pointer (some ⟨R, 0, none⟩), .int .i64 256] W fun e w' => e = .returned (.string ⟨r'.1.toArray⟩) ∧ Kp [R] W w' ∧ RR w' base R A c l r'.2.1 r'.2.2) := fun q r' W hq h =>
          (sText base R A c l q.1 q.2 W 256 h h.low).mono fun e w' ⟨⟨v, h1, h2⟩, h3, h4⟩ => by rw [hq]; exact ⟨by rw [h1]; exact congrArg Ending.returned h2, h3, h4⟩
        clear he HT hR hown hkp hds hr1 hr2 hr3 hI' hb2 hn HI
        go_wp2_with (first
          | (go_at_call 61
             (with_reducible refine HI'.out.mono ?_)
             rintro e w2 ⟨rfl, hk2, hR2⟩
             have hsz2 : wr.heap.size + 1 ≤ w2.heap.size := (by have := hk2.size; simpa using this)
             have hX2 := HXA.out.kp hk2 (by simp; omega)
             have kc2 := hX2.cell
             have kf2 := hX2.frozen
             have HK2 := Lib.hid (HKP1.out.trans hk2)
             have HX2 := Lib.hid hX2
             have HO2 := Lib.hid (own_kp HOWN1.out hk2 (fun y hy e => by have := (HOWN1.out.lt y e).1; simp at hy; omega))
             have HC2 := Lib.hid (HT'.out r1.2 r2 _ HR2E.out (hR2.set (g := wr.heap.size) (by omega) (by omega) 0 (.int .i32 r1.1)))
             clear hk2 hR2 hX2 c0 c1 c2 f1 f2)
          | (go_at_call 90
             (with_reducible refine HC2.out.mono ?_)
             rintro e w3 ⟨rfl, hk3, hR3⟩
             have hsz3 : wr.heap.size + 1 ≤ w3.heap.size := (by have := hk3.size; simp at this; omega)
             have hX3 := (HX2.out.set_ 0 (.int .i32 r1.1)).kp hk3 (by simp; omega)
             have kc3 := hX3.cell
             have kf3 := hX3.frozen
             have HK3 := Lib.hid ((HK2.out.set_ (g := wr.heap.size) (by omega) 0 (.int .i32 r1.1)).trans hk3)
             have HX3 := Lib.hid hX3
             have HO3 := Lib.hid (own_kp (own_kp HO2.out (Kp.setCell ⟨wr.heap.size, 0, none⟩ (.int .i32 r1.1)) (fun y hy e => by have := (HOB.out y e).2; simp at hy; omega)) hk3 (fun y hy e => by have := (HOB.out y e).1; simp at hy; omega))
             have HC3 := Lib.hid (HT'.out r2.2 r3 _ HR3E.out (hR3.set (g := wr.heap.size) (by omega) (by omega) 1 (.string ⟨r2.1.toArray⟩)))
             clear hk3 hR3 hX3 kc2 kf2)
          | (go_at_call 90
             (with_reducible refine HC3.out.mono ?_)
             rintro e w4 ⟨rfl, hk4, hR4⟩
             have hsz4 : wr.heap.size + 1 ≤ w4.heap.size := (by have := hk4.size; simp at this; omega)
             have hX4 := (HX3.out.set_ 1 (.string ⟨r2.1.toArray⟩)).kp hk4 (by simp; omega)
             have kc4 := hX4.cell
             have kf4 := hX4.frozen
             have hk5 := (HK3.out.set_ (g := wr.heap.size) (by omega) 1 (.string ⟨r2.1.toArray⟩)).trans hk4
             have HK5 := Lib.hid ((hk5.set_ (g := wr.heap.size) (by omega) 2 (.string ⟨r3.1.toArray⟩)).later ((Below.refl _ _).alloc (Nat.le_refl _) (.cells #[.int .i32 r1.1, .string ⟨r2.1.toArray⟩, .string ⟨r3.1.toArray⟩] 104)))
             have ho4 := own_kp (own_kp HO3.out (Kp.setCell ⟨wr.heap.size, 1, none⟩ (.string ⟨r2.1.toArray⟩)) (fun y hy e => by have := (HOB.out y e).2; simp at hy; omega)) hk4 (fun y hy e => by have := (HOB.out y e).1; simp at hy; omega)
             have HO5 := Lib.hid ((own_kp ho4 (Kp.setCell ⟨wr.heap.size, 2, none⟩ (.string ⟨r3.1.toArray⟩)) (fun y hy e => by have := (HOB.out y e).2; simp at hy; omega)).alloc (.cells #[.int .i32 r1.1, .string ⟨r2.1.toArray⟩, .string ⟨r3.1.toArray⟩] 104))
             have HR5 := Lib.hid ((hR4.set (g := wr.heap.size) (by omega) (by omega) 2 (.string ⟨r3.1.toArray⟩)).later ((Below.refl _ _).alloc (Nat.le_refl _) (.cells #[.int .i32 r1.1, .string ⟨r2.1.toArray⟩, .string ⟨r3.1.toArray⟩] 104)))
             have hrd := reads_lit3 (w4.setCell ⟨wr.heap.size, 2, none⟩ (.string ⟨r3.1.toArray⟩)) 104 (.int .i32 r1.1) (.string ⟨r2.1.toArray⟩) (.string ⟨r3.1.toArray⟩)
             rw [show (w4.setCell ⟨wr.heap.size, 2, none⟩ (.string ⟨r3.1.toArray⟩)).heap.size = w4.heap.size from by simp] at hrd
             have HRD := Lib.hid hrd
             clear hk4 hR4 hX4 kc3 kf3 hk5 ho4 hrd)
          | (at_builtin
             refine wpList_append_any _ rfl (.tmp 30) (.tmp 32) _ rfl w.heap.size 104 i0 _ 3 40 Tryz.underlying23 hi0 hz0 hz1 hz2 rfl (by decide) u3 k (aclCells ds) rfl HO5.out (w4.heap.size + 1) (some ⟨w4.heap.size, 0, none⟩) 1 1 [.int .i32 r1.1, .string ⟨r2.1.toArray⟩, .string ⟨r3.1.toArray⟩] rfl HRD.out (by simp [Value.oneCell']) (by simp only [maxLen]; omega) (by omega) (by simp; omega) ?_
             intro v1 w6 hown6 hg6 hat6
             have HK6 := Lib.hid (HK5.out.to (Kp.of_grown hg6) (fun y hy _ => hy) (fun y hy hl => by have := (HOB.out y (by simpa using hy)).1; omega))
             have HR6 := Lib.hid (HR5.out.kp (Kp.of_grown hg6) (fun hx => by have := (HOB.out R (by simpa using hx)).1; omega) (fun y hy => by have := (HOB.out y (by simpa using hy)).1; omega))
             have HO6 := Lib.hid hown6
             clear hat6 hg6 hown6 kc4 kf4))
        go_roundw
        case rel =>
          refine ⟨k + 1, r3.2, ds ++ [(r1.1, bs r2.1, bs r3.1)], by omega, by go_num, by rw [List.length_append, HD.out]; rfl, ?_, ?_, HK6.out, HR6.out⟩
          · rw [aclCells_snoc]; exact HO6.out
          · rw [show N - (k + 1) = m by omega]; exact HNEXT.out
        case measure => simp [intOf]; omega
/-- what is read in all, when ds has been -/
def AfterI (ds : List (ByteArray × ByteArray)) (r x : List (ByteArray × ByteArray) × (Nat × Int)) : Prop := r.2 = x.2 ∧ (x.2.2 = 0 → r.1 = ds ++ x.1)
theorem AfterI.step {ds : List (ByteArray × ByteArray)} {m p q : Nat} {a : ByteArray × ByteArray} {l : List UInt8} {r : List (ByteArray × ByteArray) × (Nat × Int)} (hA : AfterI ds r (stepS (gMany gIdO (m + 1)) [] l (p, 0))) (h : gIdO l p = .inl (a, q)) : AfterI (ds ++ [a]) r (stepS (gMany gIdO m) [] l (q, 0)) := by
  rcases hr : gMany gIdO m l q with ⟨x, q'⟩ | ⟨er, q'⟩
  · rw [stepS_yes [] (show gMany gIdO (m + 1) l p = .inl (a :: x, q') by rw [gMany_succ, h]; dsimp only; rw [hr])] at hA
    rw [stepS_yes [] hr]
    exact ⟨hA.1, fun h0 => by rw [hA.2 h0]; simp⟩
  · rw [stepS_no [] (show gMany gIdO (m + 1) l p = .inr (er, q') by rw [gMany_succ, h]; dsimp only; rw [hr])] at hA
    rw [stepS_no [] hr]
    exact ⟨hA.1, fun h0 => absurd h0 ((sure_idO.many m) _ _ _ _ hr)⟩

/-- how GetAcl ends -/
def IdsEnd (base R : Nat) (A : Option Addr) (c : Nat) (l : List UInt8) (s : Nat × Int) (w : World) (e : Ending) (w' : World) : Prop :=
  ∃ r, r = stepS (gGet 16 8 gIdO) [] l s ∧ (∃ L v, e = .returned v ∧ vIds w.heap.size L v w' ∧ (r.2.2 = 0 → L = r.1)) ∧ Kp [R] w w' ∧ RR w' base R A c l r.2.1 r.2.2

set_option maxRecDepth 100000 in
set_option maxHeartbeats 2000000 in
theorem sGetIds (base R : Nat) (A : Option Addr) (c : Nat) (l : List UInt8) (s : Nat × Int) (w : World) (h : RR w base R A c l s.1 s.2) :
    Calls Tryz.prog 96 #[.pointer (some ⟨R, 0, none⟩)] w (IdsEnd base R A c l s w) := by
  obtain ⟨i0, hi0, hz0, hz1, hz2⟩ := info_parts id_info
  have hRl := h.lt
  have hbo := h.old
  have hcnt := sCount base R A c l s.1 s.2 w 16 8 h
  have hN : ∃ N : Nat, N = (stepS (gCount 16 8) 0 l s).1 ∧ N ≤ 2147483647 := ⟨_, rfl, by
    unfold stepS
    by_cases he : s.2 = 0
    · rw [if_pos he]
      rcases hr : gCount 16 8 l s.1 with ⟨n, q⟩ | ⟨er, q⟩
      · exact gCount_bd hr
      · exact Nat.zero_le _
    · rw [if_neg he]; exact Nat.zero_le _⟩
  obtain ⟨N, hN, hNb⟩ := hN
  obtain ⟨s1, hs1⟩ : ∃ s1, s1 = (stepS (gCount 16 8) 0 l s).2 := ⟨_, rfl⟩
  have hcnt' : Calls Tryz.prog 95 #[.pointer (some ⟨R, 0, none⟩), .int .i64 16, .int .i64 8] w fun e w' => e = .returned (.int .i64 N) ∧ Kp [R] w w' ∧ RR w' base R A c l s1.1 s1.2 :=
    hcnt.mono fun e w' ⟨⟨v, h1, h2⟩, h3, h4⟩ => ⟨by rw [h1, hN]; exact congrArg Ending.returned h2, h3, by rw [hs1]; exact h4⟩
  -- what is read on from there
  have hgood : (s1.2 ≠ 0 → stepS (gGet 16 8 gIdO) [] l s = ([], s1) ∧ N = 0) ∧ (s1.2 = 0 → stepS (gGet 16 8 gIdO) [] l s = stepS (gMany gIdO N) [] l s1) := by
    obtain ⟨p, e⟩ := s
    by_cases he : e = 0
    · subst he
      rcases hr : gCount 16 8 l p with ⟨n, q⟩ | ⟨er, q⟩
      · rw [stepS_yes 0 hr] at hN hs1
        dsimp only at hN hs1
        subst hN hs1
        refine ⟨fun h => absurd rfl h, fun _ => ?_⟩
        unfold stepS
        rw [if_pos rfl, if_pos rfl]
        unfold gGet Rg.bind
        dsimp only
        rw [hr]
      · have he := sure_count _ _ _ _ _ _ hr
        rw [stepS_no 0 hr] at hN hs1
        dsimp only at hN hs1
        subst hN hs1
        refine ⟨fun _ => ⟨?_, rfl⟩, fun h => absurd h he⟩
        refine stepS_no [] ?_
        unfold gGet Rg.bind
        rw [hr]
    · rw [stepS_dead _ _ _ he] at hN hs1
      dsimp only at hN hs1
      subst hN hs1
      exact ⟨fun _ => ⟨stepS_dead _ _ _ he, rfl⟩, fun h => absurd h he⟩
  have HG := Lib.hid hgood
  have HC := Lib.hid hcnt'
  obtain ⟨r, hr⟩ : ∃ r, r = stepS (gGet 16 8 gIdO) [] l s := ⟨_, rfl⟩
  rw [← hr] at HG
  have HR0 := Lib.hid hr
  clear hcnt hN hs1 hcnt' hgood h hr
  go_enter Tryz.func96, Tryz.ntmps96
  go_wp2_with (go_at_call 95; refine HC.out.mono ?_; rintro e w1 ⟨rfl, hk, hR⟩; have hz1' := hk.size; have HK := Lib.hid hk; have HR := Lib.hid hR; clear hk hR)
  go_loopw [3, 4] (fun u i wr => ∃ (k : Nat) (t : Nat × Int) (ds : List (ByteArray × ByteArray)), k ≤ N ∧ i = .int .i64 ((N : Int) - k) ∧ ds.length = k ∧ wr.ownsRow w.heap.size 102 2 u k (idCells ds) ∧ Hid ((t.2 = 0 → AfterI ds r (stepS (gMany gIdO (N - k)) [] l t)) ∧ (t.2 ≠ 0 → r.2 = t)) ∧ Kp [R] w wr ∧ RR wr base R A c l t.1 t.2) (fun _ i _ => (intOf i).toNat)
  case atStart =>
    refine ⟨0, s1, [], Nat.zero_le _, by simp, rfl, World.ownsRow_nil _ _ _ _, ⟨fun h => ?_, fun h => ?_⟩, HK.out, HR.out⟩
    · rw [HG.out.2 h]; exact ⟨rfl, fun _ => rfl⟩
    · rw [(HG.out.1 h).1]
  case round =>
    clear HK HR
    obtain ⟨k, t, ds, hk, rfl, hds, hown, HT, hkp, hR⟩ := hrel
    obtain ⟨c0, c1, c2, f1, f2⟩ := hR.cells
    have HOWN := Lib.hid hown
    have HKP := Lib.hid hkp
    have HRR := Lib.hid hR
    have HD := Lib.hid hds
    have hsz := hkp.size
    by_cases he : t.2 = 0
    rotate_left
    · have hb : (t.2 == 0) = false := by simp [he]
      have hrt := HT.out.2 he
      have HE := Lib.hid he
      have HRT := Lib.hid hrt
      obtain ⟨A', c', rfl⟩ := slice_form HOWN.out
      clear he hrt hR hown hkp hds HT
      by_cases hn : (0 : Int) < (N : Int) - k
      all_goals
        go_wp2
        go_ret
        exact ⟨r, HR0.out, ⟨ds, _, rfl, ⟨A', c', by rw [HD.out]; rfl, by rw [HD.out]; exact HOWN.out⟩, fun h => absurd (by rw [← HRT.out]; exact h) HE.out⟩, HKP.out, by rw [HRT.out]; exact HRR.out⟩
    · rw [he] at c2
      by_cases hn : k < N
      rotate_left
      · have hkN : k = N := by omega
        have hrt := HT.out.1 he
        rw [show N - k = 0 by omega, show stepS (gMany gIdO 0) [] l t = ([], t) by unfold stepS; rw [if_pos he]; exact congrArg (fun e => (([] : List (ByteArray × ByteArray)), (t.1, e))) he.symm] at hrt
        have HRT : Hid (r = (ds, t)) := by unfold Hid; exact Prod.ext (by rw [hrt.2 he]; simp) hrt.1
        obtain ⟨A', c', rfl⟩ := slice_form HOWN.out
        have hn' : ¬ (0 : Int) < (N : Int) - k := by omega
        clear he hrt hR hown hkp hds HT hkN hn
        go_wp2
        go_ret
        exact ⟨r, HR0.out, ⟨ds, _, rfl, ⟨A', c', by rw [HD.out]; rfl, by rw [HD.out]; exact HOWN.out⟩, fun _ => by rw [HRT.out]⟩, HKP.out, by rw [HRT.out]; exact HRR.out⟩
      · have hn' : (0 : Int) < (N : Int) - k := by omega
        obtain ⟨m, hm⟩ : ∃ m, N - k = m + 1 := ⟨N - k - 1, by omega⟩
        -- one permission read on
        obtain ⟨r2, hr2⟩ : ∃ r2, r2 = stepS (gText 256) [] l t := ⟨_, rfl⟩
        obtain ⟨r3, hr3⟩ : ∃ r3, r3 = stepS (gText 256) [] l r2.2 := ⟨_, rfl⟩
        have HNEXT : Hid ((r3.2.2 = 0 → AfterI (ds ++ [(bs r2.1, bs r3.1)]) r (stepS (gMany gIdO m) [] l r3.2)) ∧ (r3.2.2 ≠ 0 → r.2 = r3.2)) := by
          have ha : idS l t = ((bs r2.1, bs r3.1), r3.2) := by rw [hr3, hr2]; rfl
          have hrt := HT.out.1 he
          rw [hm] at hrt
          obtain ⟨tp, te⟩ := t
          dsimp only at he
          subst he
          rcases hg : gIdO l tp with ⟨a, q1⟩ | ⟨er, q1⟩
          · have h1 := sim_id.yes _ _ _ _ hg
            rw [h1] at ha
            injection ha with ha1 ha2
            rw [← ha1, ← ha2]
            refine ⟨fun _ => ?_, fun h => absurd rfl h⟩
            exact hrt.step hg
          · have h1 := sim_id.no _ _ _ _ hg
            rw [ha] at h1
            dsimp only at h1
            have hne := sure_idO _ _ _ _ hg
            rw [h1]
            refine ⟨fun h => absurd h hne, fun _ => ?_⟩
            rw [hrt.1, stepS_no [] (show gMany gIdO (m + 1) l tp = .inr (er, q1) by rw [gMany_succ, hg])]
        have hb2 : Below wr.heap.size wr (wr.alloc (.cells #[.string ⟨#[]⟩, .string ⟨#[]⟩] 102)) := (Below.refl _ _).alloc (Nat.le_refl _) _
        have HXA : Hid (Blk (wr.alloc (.cells #[.string ⟨#[]⟩, .string ⟨#[]⟩] 102)) wr.heap.size 102 #[.string ⟨#[]⟩, .string ⟨#[]⟩]) := Blk.new _ _ _
        have HOWN1 := Lib.hid (hown.alloc (.cells #[.string ⟨#[]⟩, .string ⟨#[]⟩] 102))
        have HOB : Hid (∀ x, u3.ownBlock = some x → w.heap.size ≤ x ∧ x < wr.heap.size) := hown.lt
        have HKP1 := Lib.hid (hkp.later hb2)
        have hbw := hR.low
        have HR2E := Lib.hid hr2
        have HR3E := Lib.hid hr3
        have HT' : Hid (∀ (q : Nat × Int) (r' : List UInt8 × (Nat × Int)) W, r' = stepS (gText 256) [] l q → RR W base R A c l q.1 q.2 → Calls Tryz.prog 90 #[.pointer (some ⟨R, 0, none⟩), .int .i64 256] W fun e w' => e = .returned (.string ⟨r'.1.toArray⟩) ∧ Kp [R] W w' ∧ RR w' base R A c l r'.2.1 r'.2.2) := fun q r' W hq h =>
          (sText base R A c l q.1 q.2 W 256 h h.low).mono fun e w' ⟨⟨v, h1, h2⟩, h3, h4⟩ => by rw [hq]; exact ⟨by rw [h1]; exact congrArg Ending.returned h2, h3, h4⟩
        have HC1 := Lib.hid (HT'.out t r2 _ HR2E.out (hR.later hb2))
        clear he HT hR hown hkp hds hr2 hr3 hb2 hn
        go_wp2_with (first
          | (go_at_call 90
             (with_reducible refine HC1.out.mono ?_)
             rintro e w3 ⟨rfl, hk3, hR3⟩
             have hsz3 : wr.heap.size + 1 ≤ w3.heap.size := (by have := hk3.size; simpa using this)
             have hX3 := HXA.out.kp hk3 (by simp; omega)
             have kc3 := hX3.cell
             have kf3 := hX3.frozen
             have HK3 := Lib.hid (HKP1.out.trans hk3)
             have HX3 := Lib.hid hX3
             have HO3 := Lib.hid (own_kp HOWN1.out hk3 (fun y hy e => by have := (HOWN1.out.lt y e).1; simp at hy; omega))
             have HC3 := Lib.hid (HT'.out r2.2 r3 _ HR3E.out (hR3.set (g := wr.heap.size) (by omega) (by omega) 0 (.string ⟨r2.1.toArray⟩)))
             clear hk3 hR3 hX3 c0 c1 c2 f1 f2)
          | (go_at_call 90
             (with_reducible refine HC3.out.mono ?_)
             rintro e w4 ⟨rfl, hk4, hR4⟩
             have hsz4 : wr.heap.size + 1 ≤ w4.heap.size := (by have := hk4.size; simp at this; omega)
             have hX4 := (HX3.out.set_ 0 (.string ⟨r2.1.toArray⟩)).kp hk4 (by simp; omega)
             have kc4 := hX4.cell
             have kf4 := hX4.frozen
             have hk5 := (HK3.out.set_ (g := wr.heap.size) (by omega) 0 (.string ⟨r2.1.toArray⟩)).trans hk4
             have HK5 := Lib.hid ((hk5.set_ (g := wr.heap.size) (by omega) 1 (.string ⟨r3.1.toArray⟩)).later ((Below.refl _ _).alloc (Nat.le_refl _) (.cells #[.string ⟨r2.1.toArray⟩, .string ⟨r3.1.toArray⟩] 102)))
             have ho4 := own_kp (own_kp HO3.out (Kp.setCell ⟨wr.heap.size, 0, none⟩ (.string ⟨r2.1.toArray⟩)) (fun y hy e => by have := (HOB.out y e).2; simp at hy; omega)) hk4 (fun y hy e => by have := (HOB.out y e).1; simp at hy; omega)
             have HO5 := Lib.hid ((own_kp ho4 (Kp.setCell ⟨wr.heap.size, 1, none⟩ (.string ⟨r3.1.toArray⟩)) (fun y hy e => by have := (HOB.out y e).2; simp at hy; omega)).alloc (.cells #[.string ⟨r2.1.toArray⟩, .string ⟨r3.1.toArray⟩] 102))
             have HR5 := Lib.hid ((hR4.set (g := wr.heap.size) (by omega) (by omega) 1 (.string ⟨r3.1.toArray⟩)).later ((Below.refl _ _).alloc (Nat.le_refl _) (.cells #[.string ⟨r2.1.toArray⟩, .string ⟨r3.1.toArray⟩] 102)))
             have hrd := reads_lit2 (w4.setCell ⟨wr.heap.size, 1, none⟩ (.string ⟨r3.1.toArray⟩)) 102 (.string ⟨r2.1.toArray⟩) (.string ⟨r3.1.toArray⟩)
             rw [show (w4.setCell ⟨wr.heap.size, 1, none⟩ (.string ⟨r3.1.toArray⟩)).heap.size = w4.heap.size from by simp] at hrd
             have HRD := Lib.hid hrd
             clear hk4 hR4 hX4 kc3 kf3 hk5 ho4 hrd)
          | (at_builtin
             refine wpList_append_any _ rfl (.tmp 25) (.tmp 27) _ rfl w.heap.size 102 i0 _ 2 32 Tryz.underlying26 hi0 hz0 hz1 hz2 rfl (by decide) u3 k (idCells ds) rfl HO5.out (w4.heap.size + 1) (some ⟨w4.heap.size, 0, none⟩) 1 1 [.string ⟨r2.1.toArray⟩, .string ⟨r3.1.toArray⟩] rfl HRD.out (by simp [Value.oneCell']) (by simp only [maxLen]; omega) (by omega) (by simp; omega) ?_
             intro v1 w6 hown6 hg6 hat6
             have HK6 := Lib.hid (HK5.out.to (Kp.of_grown hg6) (fun y hy _ => hy) (fun y hy hl => by have := (HOB.out y (by simpa using hy)).1; omega))
             have HR6 := Lib.hid (HR5.out.kp (Kp.of_grown hg6) (fun hx => by have := (HOB.out R (by simpa using hx)).1; omega) (fun y hy => by have := (HOB.out y (by simpa using hy)).1; omega))
             have HO6 := Lib.hid hown6
             clear hat6 hg6 hown6 kc4 kf4))
        go_roundw
        case rel =>
          refine ⟨k + 1, r3.2, ds ++ [(bs r2.1, bs r3.1)], by omega, by go_num, by rw [List.length_append, HD.out]; rfl, ?_, ?_, HK6.out, HR6.out⟩
          · rw [idCells_snoc]; exact HO6.out
          · rw [show N - (k + 1) = m by omega]; exact HNEXT.out
        case measure => simp [intOf]; omega
end Go.Proofs.YtpjjnmdfgcfnmaaGreatDoor
