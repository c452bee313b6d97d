/- Bytes as an event: the program's DecodeEvent: the walk. (printed by gen_v2.py) -/
import Derived.Test.YtnbaajplelchjaaGreatDoorEv0
import Derived.Test.YtnbaajplelchjaaGreatDoorSur
set_option linter.unusedVariables false
set_option linter.unusedSimpArgs false
namespace Go.Proofs.YtnbaajplelchjaaGreatDoor
open Go.RowKit

theorem ev_size : (Tryz.prog.info? 55).map (·.size) = some 3 := by kernel_rfl
theorem bind_no {α β : Type} {f : Rg α} {g : α → Rg β} {l : List UInt8} {p : Nat} {x : Int × Nat} (h : f l p = .inr x) : (f.bind g) l p = .inr x := by unfold Rg.bind; rw [h]
theorem map_ev {α β : Type} {f : Rg α} {g : α → β} {l : List UInt8} {p q : Nat} {x : α} (h : f l p = .inl (x, q)) : (f.map g) l p = .inl (g x, q) := by unfold Rg.map; rw [h]
theorem map_no {α β : Type} {f : Rg α} {g : α → β} {l : List UInt8} {p : Nat} {x : Int × Nat} (h : f l p = .inr x) : (f.map g) l p = .inr x := by unfold Rg.map; rw [h]
theorem sure_must (b : Bool) : Sure (gMust b) := fun l p e q h => by
  cases b
  · rw [gMust_no rfl] at h
    injection h with h
    injection h with h _
    subst h
    decide
  · rw [gMust_yes rfl] at h
    cases h
theorem sure_ev : Sure gEv := sure_int.bind fun _ => (sure_must _).bind fun _ => sure_long.bind fun _ => (sure_must _).bind fun _ => sure_int.bind fun _ => (sure_must _).bind fun _ => sure_int.bind fun _ => (sure_must _).bind fun _ => sure_int.bind fun _ => (sure_must _).bind fun _ => (sure_text _).bind fun _ => sure_long.map

def EvAt (w : World) (nb : Nat) (x : Int × List UInt8 × Int) : Prop := Blk w nb 55 #[.int .i64 x.2.2, .int .i32 x.1, .string ⟨x.2.1.toArray⟩]
def DidV (B : Nat → Prop) (R c : Nat) (A : Option Addr) (l : List UInt8) (nb : Nat) (r : ((Int × List UInt8 × Int) × Nat) ⊕ (Int × Nat)) (w : World) (e : Ending) (w' : World) : Prop :=
  match r with
  | .inl (x, q) => (∃ v, e = .returned v) ∧ EvAt w' nb x ∧ Kp [R, nb] w w' ∧ Rdr w' B R A c l q
  | .inr (er, q) => e = .panicked (fails R er) ∧ Kp [R, nb] w w' ∧ Rdr w' B R A c l q
/-- the state in the midst -/
structure VSt (w0 : World) (B : Nat → Prop) (R c : Nat) (A : Option Addr) (l : List UInt8) (nb q : Nat) (cs : Array Value) (w : World) : Prop where
  rdr : Rdr w B R A c l q
  blk : Blk w nb 55 cs
  kp : Kp [R, nb] w0 w
  nR : R ≠ nb
  nB : ¬ B nb
  old : R < w0.heap.size ∧ nb < w0.heap.size
section
variable {w0 w w' : World} {B : Nat → Prop} {R c nb q q' : Nat} {A : Option Addr} {l : List UInt8} {cs : Array Value} {er : Int} {r : ((Int × List UInt8 × Int) × Nat) ⊕ (Int × Nat)}
theorem VSt.read (h : VSt w0 B R c A l nb q cs w) (hk : Kp [R] w w') (hR : Rdr w' B R A c l q') : VSt w0 B R c A l nb q' cs w' :=
  ⟨hR, h.blk.kp hk (by simpa using h.nR.symm), h.kp.to hk (fun _ h _ => h) (fun y hy _ => by simp at hy; simp [hy]), h.nR, h.nB, h.old⟩
theorem VSt.set (h : VSt w0 B R c A l nb q cs w) (i : Nat) (v : Value) : VSt w0 B R c A l nb q (cs.setIfInBounds i v) (w.setCell ⟨nb, i, none⟩ v) :=
  ⟨h.rdr.set h.nR h.nB i v, h.blk.set_ i v, h.kp.set_in (by simp) i v, h.nR, h.nB, h.old⟩
theorem VSt.no (h : VSt w0 B R c A l nb q cs w) (hk : Kp [R] w w') (hR : Rdr w' B R A c l q') (hr : r = .inr (er, q')) : DidV B R c A l nb r w0 (.panicked (fails R er)) w' := by
  subst hr
  exact ⟨rfl, (h.read hk hR).kp, hR⟩
theorem VSt.out (h : VSt w0 B R c A l nb q cs w) (hr : r = .inr (er, q)) : DidV B R c A l nb r w0 (.panicked (fails R er)) w := by
  subst hr
  exact ⟨rfl, h.kp, h.rdr⟩
end
set_option maxRecDepth 100000 in
theorem must_no (B : Nat → Prop) (R c p : Nat) (A : Option Addr) (l : List UInt8) (w : World) (h : Rdr w B R A c l p) :
    Calls Tryz.prog 65 #[.pointer (some ⟨R, 0, none⟩), .bool false] w fun e w' => e = .panicked (fails R 22) ∧ w = w' := by
  have H := Lib.hid h
  clear h
  go_enter Tryz.func65, Tryz.ntmps65
  go_wp2_with (go_at_call 51; refine (fail_any B R c p A l 22 rfl _ H.out).mono ?_; rintro e w2 ⟨rfl, rfl⟩)
  exact ⟨rfl, rfl, rfl⟩
set_option maxRecDepth 100000 in
theorem must_yes (v : Value) (w : World) : Calls Tryz.prog 65 #[v, .bool true] w fun e w' => e = .returned (.tuple #[]) ∧ w = w' := by
  go_enter Tryz.func65, Tryz.ntmps65
  go_wp2
  go_end0
  exact ⟨rfl, rfl⟩

set_option maxRecDepth 100000 in
set_option maxHeartbeats 8000000 in
theorem decodeEvF_any (B : Nat → Prop) (R c p nb : Nat) (A : Option Addr) (l : List UInt8) (w : World) (h : VSt w B R c A l nb p #[.int .i64 0, .int .i32 0, .string ⟨#[]⟩] w) :
    Calls Tryz.prog 64 #[.pointer (some ⟨R, 0, none⟩), .pointer (some ⟨nb, 0, none⟩)] w fun e w' => DidV B R c A l nb (gEv l p) w e w' := by
  have hold := h.old
  have H0 := Lib.hid h
  clear h
  have hg : gEv l p = gEv l p := rfl
  conv at hg => rhs; unfold gEv
  have HG0 := Lib.hid hg
  clear hg
  go_enter Tryz.func64, Tryz.ntmps64
  have ht := rInt_any B R c p A l _ H0.out.rdr
  rcases h1 : gInt l p with ⟨a, q1⟩ | ⟨er, q1⟩
  rotate_left
  · rw [h1] at ht
    have HT := Lib.hid ht
    have HGE := Lib.hid (HG0.out.trans (bind_no h1))
    clear ht h1
    go_wp2_with (go_at_call 49; refine HT.out.mono ?_; rintro e w2 ⟨rfl, hkp, hR⟩; have HR := Lib.hid (H0.out.no hkp hR HGE.out); clear hkp hR)
    exact ⟨rfl, HR.out⟩
  rw [h1] at ht
  have HT := Lib.hid ht
  have hg := HG0.out.trans (bind_ev h1)
  try dsimp only at hg
  have HG1 := Lib.hid hg
  clear ht h1 hg HG0
  by_cases hb : a = -1
  rotate_left
  · have hb1 : (a == -1) = false := by simp [hb]
    have HGE := Lib.hid (HG1.out.trans (bind_no (gMust_no hb1 l q1)))
    clear hb
    go_wp2_with (first
      | (go_at_call 49; refine HT.out.mono ?_; rintro e w2 ⟨⟨v, rfl, rfl⟩, hkp, hR⟩; have HN := Lib.hid (H0.out.read hkp hR); clear hkp hR)
      | (go_at_call 65; refine (must_no B R c q1 A l _ HN.out.rdr).mono ?_; rintro e w2 ⟨rfl, rfl⟩))
    exact ⟨rfl, HN.out.out HGE.out⟩
  subst hb
  have hg := HG1.out.trans (bind_ev (gMust_yes (by rfl) l q1))
  try dsimp only at hg
  clear HG1
  have HG1 := Lib.hid hg
  clear hg
  go_wp2_with (first
      | (go_at_call 49; refine HT.out.mono ?_; rintro e w2 ⟨⟨v, rfl, rfl⟩, hkp, hR⟩; have H1 := Lib.hid (H0.out.read hkp hR); clear hkp hR)
      | (go_at_call 65; refine (must_yes _ _).mono ?_; rintro e w2 ⟨rfl, rfl⟩; refine Hid.out ?_))
  clear HT H0
  have ht := rLong_any B R c q1 A l _ H1.out.rdr
  rcases h1 : gLong l q1 with ⟨b, q2⟩ | ⟨er, q2⟩
  rotate_left
  · rw [h1] at ht
    have HT := Lib.hid ht
    have HGE := Lib.hid (HG1.out.trans (bind_no h1))
    clear ht h1
    refine Lib.hid ?_
    go_wp2_with (go_at_call 50; refine HT.out.mono ?_; rintro e w2 ⟨rfl, hkp, hR⟩; have HR := Lib.hid (H1.out.no hkp hR HGE.out); clear hkp hR)
    exact ⟨rfl, HR.out⟩
  rw [h1] at ht
  have HT := Lib.hid ht
  have hg := HG1.out.trans (bind_ev h1)
  try dsimp only at hg
  have HG2 := Lib.hid hg
  clear ht h1 hg HG1
  by_cases hb : b = -1
  rotate_left
  · have hb1 : (b == -1) = false := by simp [hb]
    have HGE := Lib.hid (HG2.out.trans (bind_no (gMust_no hb1 l q2)))
    clear hb
    refine Lib.hid ?_
    go_wp2_with (first
      | (go_at_call 50; refine HT.out.mono ?_; rintro e w2 ⟨⟨v, rfl, rfl⟩, hkp, hR⟩; have HN := Lib.hid (H1.out.read hkp hR); clear hkp hR)
      | (go_at_call 65; refine (must_no B R c q2 A l _ HN.out.rdr).mono ?_; rintro e w2 ⟨rfl, rfl⟩))
    exact ⟨rfl, HN.out.out HGE.out⟩
  subst hb
  have hg := HG2.out.trans (bind_ev (gMust_yes (by rfl) l q2))
  try dsimp only at hg
  clear HG2
  have HG2 := Lib.hid hg
  clear hg
  refine Lib.hid ?_
  go_wp2_with (first
      | (go_at_call 50; refine HT.out.mono ?_; rintro e w2 ⟨⟨v, rfl, rfl⟩, hkp, hR⟩; have H2 := Lib.hid (H1.out.read hkp hR); clear hkp hR)
      | (go_at_call 65; refine (must_yes _ _).mono ?_; rintro e w2 ⟨rfl, rfl⟩; refine Hid.out ?_))
  clear HT H1
  have ht := rInt_any B R c q2 A l _ H2.out.rdr
  rcases h1 : gInt l q2 with ⟨d, q3⟩ | ⟨er, q3⟩
  rotate_left
  · rw [h1] at ht
    have HT := Lib.hid ht
    have HGE := Lib.hid (HG2.out.trans (bind_no h1))
    clear ht h1
    refine Lib.hid ?_
    go_wp2_with (go_at_call 49; refine HT.out.mono ?_; rintro e w2 ⟨rfl, hkp, hR⟩; have HR := Lib.hid (H2.out.no hkp hR HGE.out); clear hkp hR)
    exact ⟨rfl, HR.out⟩
  rw [h1] at ht
  have HT := Lib.hid ht
  have hg := HG2.out.trans (bind_ev h1)
  try dsimp only at hg
  have HG3 := Lib.hid hg
  clear ht h1 hg HG2
  by_cases hb : d = 0
  rotate_left
  · have hb1 : (d == 0) = false := by simp [hb]
    have HGE := Lib.hid (HG3.out.trans (bind_no (gMust_no hb1 l q3)))
    clear hb
    refine Lib.hid ?_
    go_wp2_with (first
      | (go_at_call 49; refine HT.out.mono ?_; rintro e w2 ⟨⟨v, rfl, rfl⟩, hkp, hR⟩; have HN := Lib.hid (H2.out.read hkp hR); clear hkp hR)
      | (go_at_call 65; refine (must_no B R c q3 A l _ HN.out.rdr).mono ?_; rintro e w2 ⟨rfl, rfl⟩))
    exact ⟨rfl, HN.out.out HGE.out⟩
  subst hb
  have hg := HG3.out.trans (bind_ev (gMust_yes (by rfl) l q3))
  try dsimp only at hg
  clear HG3
  have HG3 := Lib.hid hg
  clear hg
  refine Lib.hid ?_
  go_wp2_with (first
      | (go_at_call 49; refine HT.out.mono ?_; rintro e w2 ⟨⟨v, rfl, rfl⟩, hkp, hR⟩; have H3 := Lib.hid (H2.out.read hkp hR); clear hkp hR)
      | (go_at_call 65; refine (must_yes _ _).mono ?_; rintro e w2 ⟨rfl, rfl⟩; refine Hid.out ?_))
  clear HT H2
  have ht := rInt_any B R c q3 A l _ H3.out.rdr
  rcases h1 : gInt l q3 with ⟨k, q4⟩ | ⟨er, q4⟩
  rotate_left
  · rw [h1] at ht
    have HT := Lib.hid ht
    have HGE := Lib.hid (HG3.out.trans (bind_no h1))
    clear ht h1
    refine Lib.hid ?_
    go_wp2_with (go_at_call 49; refine HT.out.mono ?_; rintro e w2 ⟨rfl, hkp, hR⟩; have HR := Lib.hid (H3.out.no hkp hR HGE.out); clear hkp hR)
    exact ⟨rfl, HR.out⟩
  rw [h1] at ht
  have HT := Lib.hid ht
  have hg := HG3.out.trans (bind_ev h1)
  try dsimp only at hg
  have HG4 := Lib.hid hg
  clear ht h1 hg HG3
  refine Lib.hid ?_
  go_wp2_with (go_at_call 49; refine HT.out.mono ?_; rintro e w2 ⟨⟨v, rfl, rfl⟩, hkp, hR⟩; have HN := Lib.hid (H3.out.read hkp hR); clear hkp hR; refine Hid.out ?_)
  have kc := HN.out.blk.cell 1
  have kf := HN.out.blk.frozen 1
  simp only [List.getElem?_toArray, List.getElem?_cons_zero, List.getElem?_cons_succ] at kc
  have H4 := Lib.hid (HN.out.set 1 (.int .i32 k))
  simp only [List.setIfInBounds_toArray, List.set_cons_zero, List.set_cons_succ] at H4
  clear HT H3
  have kc1 := H4.out.blk.cell 1
  simp only [List.getElem?_toArray, List.getElem?_cons_zero, List.getElem?_cons_succ] at kc1
  by_cases hk : 1 ≤ k ∧ k ≤ 4
  rotate_left
  · have hb : (decide (1 ≤ k) && decide (k ≤ 4)) = false := by simp; omega
    have hg := HG4.out.trans (bind_no (gMust_no hb l q4))
    have HGE := Lib.hid hg
    have HK := Lib.hid (kind_any k)
    rw [hb] at HK
    clear hb hg
    refine Lib.hid ?_
    go_wp2_with (first
      | (go_at_call 59; refine (HK.out _).mono ?_; rintro e w2 ⟨rfl, rfl⟩)
      | (go_at_call 65; refine (must_no B R c q4 A l _ H4.out.rdr).mono ?_; rintro e w2 ⟨rfl, rfl⟩))
    exact ⟨rfl, H4.out.out HGE.out⟩
  have hb : (decide (1 ≤ k) && decide (k ≤ 4)) = true := by simp; omega
  have hg := HG4.out.trans (bind_ev (gMust_yes hb l q4))
  try dsimp only at hg
  have HG5 := Lib.hid hg
  have HK := Lib.hid (kind_any k)
  rw [hb] at HK
  have H5 := Lib.hid H4.out
  clear hb hg H4 HG4
  refine Lib.hid ?_
  go_wp2_with (first
      | (go_at_call 59; refine (HK.out _).mono ?_; rintro e w2 ⟨rfl, rfl⟩)
      | (go_at_call 65; refine (must_yes _ _).mono ?_; rintro e w2 ⟨rfl, rfl⟩; refine Hid.out ?_))
  clear HK kc kf
  have ht := rInt_any B R c q4 A l _ H5.out.rdr
  rcases h1 : gInt l q4 with ⟨f, q6⟩ | ⟨er, q6⟩
  rotate_left
  · rw [h1] at ht
    have HT := Lib.hid ht
    have HGE := Lib.hid (HG5.out.trans (bind_no h1))
    clear ht h1
    refine Lib.hid ?_
    go_wp2_with (go_at_call 49; refine HT.out.mono ?_; rintro e w2 ⟨rfl, hkp, hR⟩; have HR := Lib.hid (H5.out.no hkp hR HGE.out); clear hkp hR)
    exact ⟨rfl, HR.out⟩
  rw [h1] at ht
  have HT := Lib.hid ht
  have hg := HG5.out.trans (bind_ev h1)
  try dsimp only at hg
  have HG6 := Lib.hid hg
  clear ht h1 hg HG5
  by_cases hb : f = 3
  rotate_left
  · have hb1 : (f == 3) = false := by simp [hb]
    have HGE := Lib.hid (HG6.out.trans (bind_no (gMust_no hb1 l q6)))
    clear hb
    refine Lib.hid ?_
    go_wp2_with (first
      | (go_at_call 49; refine HT.out.mono ?_; rintro e w2 ⟨⟨v, rfl, rfl⟩, hkp, hR⟩; have HN := Lib.hid (H5.out.read hkp hR); clear hkp hR)
      | (go_at_call 65; refine (must_no B R c q6 A l _ HN.out.rdr).mono ?_; rintro e w2 ⟨rfl, rfl⟩))
    exact ⟨rfl, HN.out.out HGE.out⟩
  subst hb
  have hg := HG6.out.trans (bind_ev (gMust_yes (by rfl) l q6))
  try dsimp only at hg
  clear HG6
  have HG6 := Lib.hid hg
  clear hg
  refine Lib.hid ?_
  go_wp2_with (first
      | (go_at_call 49; refine HT.out.mono ?_; rintro e w2 ⟨⟨v, rfl, rfl⟩, hkp, hR⟩; have H6 := Lib.hid (H5.out.read hkp hR); clear hkp hR)
      | (go_at_call 65; refine (must_yes _ _).mono ?_; rintro e w2 ⟨rfl, rfl⟩; refine Hid.out ?_))
  clear HT H5
  have ht := rText_any B R c q6 A l 4096 _ H6.out.rdr
  rcases h1 : gText 4096 l q6 with ⟨s, q7⟩ | ⟨er, q7⟩
  rotate_left
  · rw [h1] at ht
    have HT := Lib.hid ht
    have HGE := Lib.hid (HG6.out.trans (bind_no h1))
    clear ht h1
    refine Lib.hid ?_
    go_wp2_with (go_at_call 66; refine HT.out.mono ?_; rintro e w2 ⟨rfl, hkp, hR⟩; have HR := Lib.hid (H6.out.no hkp hR HGE.out); clear hkp hR)
    exact ⟨rfl, HR.out⟩
  rw [h1] at ht
  have HT := Lib.hid ht
  have hg := HG6.out.trans (bind_ev h1)
  try dsimp only at hg
  have HG7 := Lib.hid hg
  clear ht h1 hg HG6
  refine Lib.hid ?_
  go_wp2_with (go_at_call 66; refine HT.out.mono ?_; rintro e w2 ⟨⟨v, rfl, rfl⟩, hkp, hR⟩; have HN := Lib.hid (H6.out.read hkp hR); clear hkp hR; refine Hid.out ?_)
  have kc := HN.out.blk.cell 2
  have kf := HN.out.blk.frozen 2
  simp only [List.getElem?_toArray, List.getElem?_cons_zero, List.getElem?_cons_succ] at kc
  have H7 := Lib.hid (HN.out.set 2 (.string ⟨s.toArray⟩))
  simp only [List.setIfInBounds_toArray, List.set_cons_zero, List.set_cons_succ] at H7
  clear HT H6
  have ht := rLong_any B R c q7 A l _ H7.out.rdr
  rcases h1 : gLong l q7 with ⟨z, q8⟩ | ⟨er, q8⟩
  rotate_left
  · rw [h1] at ht
    have HT := Lib.hid ht
    have HGE := Lib.hid (HG7.out.trans (map_no h1))
    clear ht h1
    refine Lib.hid ?_
    go_wp2_with (go_at_call 50; refine HT.out.mono ?_; rintro e w2 ⟨rfl, hkp, hR⟩; have HR := Lib.hid (H7.out.no hkp hR HGE.out); clear hkp hR)
    exact ⟨rfl, HR.out⟩
  rw [h1] at ht
  have HT := Lib.hid ht
  have hg := HG7.out.trans (map_ev h1)
  try dsimp only at hg
  have HG8 := Lib.hid hg
  clear ht h1 hg HG7
  refine Lib.hid ?_
  go_wp2_with (go_at_call 50; refine HT.out.mono ?_; rintro e w2 ⟨⟨v, rfl, rfl⟩, hkp, hR⟩; have HN := Lib.hid (H7.out.read hkp hR); clear hkp hR; refine Hid.out ?_)
  have kc := HN.out.blk.cell 0
  have kf := HN.out.blk.frozen 0
  simp only [List.getElem?_toArray, List.getElem?_cons_zero, List.getElem?_cons_succ] at kc
  have H8 := Lib.hid (HN.out.set 0 (.int .i64 z))
  simp only [List.setIfInBounds_toArray, List.set_cons_zero, List.set_cons_succ] at H8
  clear HT H7
  refine Lib.hid ?_
  go_wp2
  go_end0
  rw [HG8.out]
  exact ⟨⟨_, rfl⟩, H8.out.blk, H8.out.kp, H8.out.rdr⟩
end Go.Proofs.YtnbaajplelchjaaGreatDoor
