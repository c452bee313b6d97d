/- A node read: a permission: the program's walk. -/
import Derived.Test.YtaojjjcaofhmcaaDoorSn3
import Derived.Test.YtaojjjcaofhmcaaDoorJrb
set_option linter.unusedVariables false
set_option linter.unusedSimpArgs false
namespace Go.Proofs.YtaojjjcaofhmcaaDoor
open Go.RowKit

def gAcl : Rg AclT := gInt.bind fun z => (gText 256).bind fun s => (gText 256).map fun i => (z, bs s, bs i)
def vAcl (x : AclT) (v : Value) (_ : World) : Prop := v = .agg #[.int .i32 x.1, .string x.2.1, .string x.2.2]
def vAcls (base : Nat) (L : List AclT) (v : Value) (w : World) : Prop := ∃ A' c', v = .slice A' L.length c' ∧ w.ownsRow base 57 3 v L.length (aclCells L)
theorem aclCells_snoc (L : List AclT) (a : AclT) : aclCells (L ++ [a]) = aclCells L ++ [.int .i32 a.1, .string a.2.1, .string a.2.2] := by simp [aclCells]
theorem acl_size : (Tryd.prog.info? 57).map (·.size) = some 3 := by kernel_rfl
theorem Rdr.set {w : World} {B : Nat → Prop} {R c p g : Nat} {A : Option Addr} {l : List UInt8} (h : Rdr w B R A c l p) (hg : R ≠ g) (hB : ¬ B g) (i : Nat) (v : Value) : Rdr (w.setCell ⟨g, i, none⟩ v) B R A c l p :=
  h.kp (Kp.setCell ⟨g, i, none⟩ v) (by simpa using hg) (by simpa using hB)
theorem Kp.set_ {X : List Nat} {w w' : World} (h : Kp X w w') {g : Nat} (hg : w.heap.size ≤ g) (i : Nat) (v : Value) : Kp X w (w'.setCell ⟨g, i, none⟩ v) :=
  h.to (Kp.setCell ⟨g, i, none⟩ v) (fun _ h _ => h) (fun y hy hl => by simp at hy; omega)
theorem Kp.set_in {X : List Nat} {w w' : World} (h : Kp X w w') {g : Nat} (hg : g ∈ X) (i : Nat) (v : Value) : Kp X w (w'.setCell ⟨g, i, none⟩ v) :=
  h.to (Kp.setCell ⟨g, i, none⟩ v) (fun _ h _ => h) (fun y hy hl => by simp at hy; rw [hy]; exact hg)
theorem Kp.later {X : List Nat} {w w' w'' : World} (h : Kp X w w') (hb : Below w'.heap.size w' w'') : Kp X w w'' := h.to (Kp.of_below (X := []) hb) (fun _ h _ => h) (fun _ h => by cases h)

set_option maxRecDepth 100000 in
set_option maxHeartbeats 2000000 in
theorem rAcl_any (B : Nat → Prop) (R c p : Nat) (A : Option Addr) (l : List UInt8) (w : World) (h : Rdr w B R A c l p) :
    Calls Tryd.prog 69 #[.pointer (some ⟨R, 0, none⟩)] w fun e w' => Rend B R c A l vAcl (gAcl l p) w e w' := by
  obtain ⟨w1, hw1⟩ : ∃ w1, w.alloc (.cells #[.int .i32 0, .string ⟨#[]⟩, .string ⟨#[]⟩] 57) = w1 := ⟨_, rfl⟩
  have hb1 : Below w.heap.size w w1 := by rw [← hw1]; exact (Below.refl _ _).alloc (Nat.le_refl _) _
  have hS : Blk w1 w.heap.size 57 #[.int .i32 0, .string ⟨#[]⟩, .string ⟨#[]⟩] := by rw [← hw1]; exact Blk.new _ _ _
  have hz1 : w1.heap.size = w.heap.size + 1 := by rw [← hw1]; simp
  have hRl := h.lt
  have hI := rInt_any B R c p A l w1 (h.later hb1)
  have HT : Hid (∀ q W, Rdr W B R A c l q → Calls Tryd.prog 66 #[.pointer (some ⟨R, 0, none⟩), .int .i64 256] W fun e w' => Rend B R c A l vText (gText 256 l q) W e w') := fun q W h => rText_any B R c q A l 256 W h
  have HNB : Hid (∀ x, w.heap.size ≤ x → R ≠ x ∧ ¬ B x) := fun x hx => ⟨by omega, h.new (by omega)⟩
  have HB1 := Lib.hid hb1
  have HS := Lib.hid hS
  clear hb1 hS h
  rcases h1 : gInt l p with ⟨z, q1⟩ | ⟨er, q1⟩
  rotate_left
  · rw [h1] at hI
    have HI := Lib.hid hI
    have HG : Hid (gAcl l p = .inr (er, q1)) := by unfold Hid gAcl Rg.bind; rw [h1]
    clear hI h1
    go_enter Tryd.func69, Tryd.ntmps69
    go_wp2_with (go_at_call 70; refine HI.out.mono ?_; rintro e w2 ⟨rfl, hkp, hR⟩; have HKP := Lib.hid hkp; have HR := Lib.hid hR; clear hkp hR)
    exact ⟨rfl, Rend.no HG.out ((Kp.of_below HB1.out).trans HKP.out) HR.out⟩
  rw [h1] at hI
  have HI := Lib.hid hI
  clear hI
  go_enter Tryd.func69, Tryd.ntmps69
  go_wp2_with (go_at_call 70; refine HI.out.mono ?_; rintro e w2 ⟨⟨v, rfl, rfl⟩, hkp, hR⟩; have hz2 := hkp.size; have HKP := Lib.hid hkp; have HR := Lib.hid hR; clear hkp hR; refine Hid.out ?_)
  have HS2 : Hid (Blk w2 w.heap.size 57 #[.int .i32 0, .string ⟨#[]⟩, .string ⟨#[]⟩]) := HS.out.kp HKP.out (by simp; omega)
  have HB3 : Hid (Below w2.heap.size w2 (w2.alloc (.cells #[.int .i32 z, .string ⟨#[]⟩, .string ⟨#[]⟩] 57))) := (Below.refl _ _).alloc (Nat.le_refl _) _
  have HX3 : Hid (Blk (w2.alloc (.cells #[.int .i32 z, .string ⟨#[]⟩, .string ⟨#[]⟩] 57)) w2.heap.size 57 #[.int .i32 z, .string ⟨#[]⟩, .string ⟨#[]⟩]) := Blk.new _ _ _
  have HR3 := Lib.hid (HR.out.later HB3.out)
  have HKA : Hid (Kp [R] w (w2.alloc (.cells #[.int .i32 z, .string ⟨#[]⟩, .string ⟨#[]⟩] 57))) := ((Kp.of_below HB1.out).trans HKP.out).later HB3.out
  have ht := HT.out q1 _ HR3.out
  rcases h2 : gText 256 l q1 with ⟨s, q2⟩ | ⟨er, q2⟩
  rotate_left
  · rw [h2] at ht
    have HT2 := Lib.hid ht
    have HG : Hid (gAcl l p = .inr (er, q2)) := by unfold Hid gAcl Rg.bind; rw [h1]; dsimp only; rw [h2]
    clear ht h1 h2
    refine Lib.hid ?_
    go_wp2_with (go_at_call 66; refine HT2.out.mono ?_; rintro e w4 ⟨rfl, hkp, hR⟩; have HK4 := Lib.hid (HKA.out.trans hkp); have HR4 := Lib.hid hR; clear hkp hR)
    exact ⟨rfl, Rend.no HG.out HK4.out HR4.out⟩
  rw [h2] at ht
  have HT2 := Lib.hid ht
  clear ht
  refine Lib.hid ?_
  go_wp2_with (go_at_call 66; refine HT2.out.mono ?_; rintro e w4 ⟨⟨v, rfl, rfl⟩, hkp, hR⟩; have hz4 : w2.heap.size + 1 ≤ w4.heap.size := (by have := hkp.size; simpa using this); have HK4 := Lib.hid (HKA.out.trans hkp); have HR4 := Lib.hid hR; have HX4 := Lib.hid (HX3.out.kp hkp (by simp; omega)); have HS4 := Lib.hid ((HS2.out.below HB3.out HS2.out.lt).kp hkp (by simp; omega)); clear hkp hR; refine Hid.out ?_)
  have ht := HT.out q2 _ (HR4.out.set (g := w2.heap.size) (by omega) (HNB.out _ (by omega)).2 1 (.string ⟨s.toArray⟩))
  have HX5 := Lib.hid (HX4.out.set_ 1 (.string ⟨s.toArray⟩))
  have HK5 := Lib.hid (HK4.out.set_ (g := w2.heap.size) (by omega) 1 (.string ⟨s.toArray⟩))
  have HS5 := Lib.hid (HS4.out.far (p := ⟨w2.heap.size, 1, none⟩) (by simp; omega) (.string ⟨s.toArray⟩))
  have kc := HX4.out.cell
  have kf := HX4.out.frozen
  rcases h3 : gText 256 l q2 with ⟨i, q3⟩ | ⟨er, q3⟩
  rotate_left
  · rw [h3] at ht
    have HT3 := Lib.hid ht
    have HG : Hid (gAcl l p = .inr (er, q3)) := by unfold Hid gAcl Rg.bind Rg.map; rw [h1]; dsimp only; rw [h2]; dsimp only; rw [h3]
    clear ht h1 h2 h3
    refine Lib.hid ?_
    go_wp2_with (go_at_call 66; refine HT3.out.mono ?_; rintro e w5 ⟨rfl, hkp, hR⟩; have HK6 := Lib.hid (HK5.out.trans hkp); have HR6 := Lib.hid hR; clear hkp hR)
    exact ⟨rfl, Rend.no HG.out HK6.out HR6.out⟩
  rw [h3] at ht
  have HT3 := Lib.hid ht
  have HG : Hid (gAcl l p = .inl ((z, bs s, bs i), q3)) := by unfold Hid gAcl Rg.bind Rg.map; rw [h1]; dsimp only; rw [h2]; dsimp only; rw [h3]
  clear ht h1 h2 h3
  refine Lib.hid ?_
  go_wp2_with (go_at_call 66; refine HT3.out.mono ?_; rintro e w6 ⟨⟨v, rfl, rfl⟩, hkp, hR⟩; have HK6 := Lib.hid (HK5.out.trans hkp); have HR6 := Lib.hid hR; have hX6 := HX5.out.kp hkp (by simp; omega); have hS6 := HS5.out.kp hkp (by simp; omega); have jc := hX6.cell; have jf := hX6.frozen; have lc := hS6.cell; have lf := hS6.frozen; have HX6 := Lib.hid hX6; have HS6 := Lib.hid hS6; clear hkp hR hX6 hS6 kc kf)
  refine bodyPost_ret (v := .agg #[.int .i32 z, .string ⟨s.toArray⟩, .string ⟨i.toArray⟩]) (by simp [results, Tryd.results69, go_sem, lc, lf, jc, jf]) rfl ?_
  clear jc jf lc lf
  refine Rend.yes HG.out rfl ?_ ?_
  · repeat (first | exact HK6.out | refine Kp.set_ ?_ (by omega) _ _)
  · repeat (first | exact HR6.out | refine Rdr.set ?_ (by omega) (HNB.out _ (by omega)).2 _ _)

theorem acls_make0 (w : World) : (Instr.makeSlice 28 (.int .i64 0) (.int .i64 0)).run Tryd.prog w = .ok (.slice (some ⟨w.heap.size, 0, none⟩) 0 0) (w.alloc (.cells #[] 57)) := by kernel_rfl
theorem aclget_ne (F : FuncId) (first cap : Array Value) (w : World) : (binOp .neq 120 (.func (.func F) first cap) .nilFunc).run Tryd.prog w = .ok (.bool true) w := by kernel_rfl
theorem reads_lit3 (w : World) (t : TypeId) (x y z : Value) : Reads (w.alloc (.cells #[x, y, z] t)) (w.heap.size + 1) 3 (some ⟨w.heap.size, 0, none⟩) 1 [x, y, z] :=
  ⟨by simp, fun _ => ⟨_, rfl, Nat.lt_succ_self _, fun j u hu => by
    have h := (Blk.new w t #[x, y, z]).cell j
    rw [Go.WideShapes.add_plain, Nat.zero_add, h]
    simpa using hu⟩⟩

/-- three cells of a block written over, a new block behind them -/
theorem set3 (w : World) (g : Nat) (x y z : Value) (t : TypeId) : Kp [g] w ((((w.setCell ⟨g, 0, none⟩ x).setCell ⟨g, 1, none⟩ y).setCell ⟨g, 2, none⟩ z).alloc (.cells #[x, y, z] t)) ∧
    Reads ((((w.setCell ⟨g, 0, none⟩ x).setCell ⟨g, 1, none⟩ y).setCell ⟨g, 2, none⟩ z).alloc (.cells #[x, y, z] t)) (w.heap.size + 1) 3 (some ⟨w.heap.size, 0, none⟩) 1 [x, y, z] ∧
    ((((w.setCell ⟨g, 0, none⟩ x).setCell ⟨g, 1, none⟩ y).setCell ⟨g, 2, none⟩ z).alloc (.cells #[x, y, z] t)).heap.size = w.heap.size + 1 := by
  have e : (((w.setCell ⟨g, 0, none⟩ x).setCell ⟨g, 1, none⟩ y).setCell ⟨g, 2, none⟩ z).heap.size = w.heap.size := by simp
  have h := reads_lit3 (((w.setCell ⟨g, 0, none⟩ x).setCell ⟨g, 1, none⟩ y).setCell ⟨g, 2, none⟩ z) t x y z
  rw [e] at h
  exact ⟨((Kp.setCell ⟨g, 0, none⟩ x).trans ((Kp.setCell ⟨g, 1, none⟩ y).trans (Kp.setCell ⟨g, 2, none⟩ z))).trans (Kp.alloc _), h, by simp⟩

set_option maxRecDepth 100000 in
set_option maxHeartbeats 2000000 in
theorem rGetAcl_any (B : Nat → Prop) (R c p : Nat) (A : Option Addr) (l : List UInt8) (most least : Int) (F : FuncId) (first cap : Array Value) (g : Rg AclT) (w : World) (h : Rdr w B R A c l p) (hent : ∀ (args : Array Value) (W : World), (callFunc F args).run Tryd.prog W = .ok (.enter F args) W)
    (hg : ∀ W q, Kp [R] w W → Rdr W B R A c l q → Calls Tryd.prog F (first.push (.pointer (some ⟨R, 0, none⟩)) ++ cap) W fun e w' => Rend B R c A l vAcl (g l q) W e w') :
    Calls Tryd.prog 68 #[.pointer (some ⟨R, 0, none⟩), .int .i64 most, .int .i64 least, .func (.func F) first cap] w fun e w' => Rend B R c A l (vAcls w.heap.size) (gGet most least g l p) w e w' := by
  obtain ⟨i0, hi0, hz0, hz1, hz2⟩ := info_parts acl_info
  have hC := rCount_any B R c p A l most least (w.alloc (.cells #[] 57)) (h.later ((Below.refl _ _).alloc (Nat.le_refl _) _))
  have H := Lib.hid h
  have HG := Lib.hid hg
  have hne := aclget_ne F first cap
  have hmk := acls_make0
  have hRl := h.lt
  have hnew : ∀ y, w.heap.size ≤ y → ¬ B y := fun y hy => h.new (by omega)
  have HNEW := Lib.hid hnew
  clear hnew
  clear hg h
  rcases hres : gCount most least l p with ⟨n, q0⟩ | ⟨er, q0⟩
  · rw [hres] at hC
    have HC := Lib.hid hC
    have hnb : n ≤ 2147483647 := gCount_bd hres
    have HN : Hid (∀ e, gMany g n l q0 = e → gGet most least g l p = e) := by
      intro e he
      unfold gGet Rg.bind
      rw [hres]
      exact he
    clear hC hres
    go_enter Tryd.func68, Tryd.ntmps68
    go_wp2_with (go_at_call 101; refine (HC.out).mono ?_; rintro e w2 ⟨⟨v, rfl, rfl⟩, hkp, hR⟩; have HKP := Lib.hid hkp; have HR := Lib.hid hR; clear hkp hR)
    go_loopw [9, 16] (fun v i wr => ∃ (k q : Nat) (ds : List AclT), k ≤ n ∧ i = .int .i64 k ∧ ds.length = k ∧ wr.ownsRow w.heap.size 57 3 v k (aclCells ds) ∧ Hid (after ds (gMany g (n - k) l q) = gMany g n l q0) ∧ Kp [R] w wr ∧ Rdr wr B R A c l q) (fun _ i _ => n - (intOf i).toNat)
    case atStart =>
      exact ⟨0, q0, [], Nat.zero_le _, rfl, rfl, own_kp (World.ownsRow_made w #[] 0 (Nat.le_refl _) (by decide) rfl) HKP.out (fun x hx e => by simp [Value.ownBlock] at hx e; omega), by show _ = _; rcases gMany g n l q0 with ⟨r, q'⟩ | e <;> rfl, (Kp.alloc _).trans HKP.out, HR.out⟩
    case round =>
      clear HKP HR
      obtain ⟨k, q, ds, hk, rfl, hds, hown, HA, hkp, hR⟩ := hrel
      have hb2 : Below wr.heap.size wr (wr.alloc (.cells #[.int .i32 0, .string ⟨#[]⟩, .string ⟨#[]⟩] 57)) := (Below.refl _ _).alloc (Nat.le_refl _) _
      have HXA : Hid (Blk (wr.alloc (.cells #[.int .i32 0, .string ⟨#[]⟩, .string ⟨#[]⟩] 57)) wr.heap.size 57 #[.int .i32 0, .string ⟨#[]⟩, .string ⟨#[]⟩]) := Blk.new _ _ _
      have HKP := Lib.hid (hkp.later hb2)
      have HKQ := Lib.hid hkp
      have HR := Lib.hid hR
      have HD := Lib.hid hds
      have hsz := hkp.size
      have hget := HG.out _ q HKP.out (hR.later hb2)
      have HOWN := Lib.hid (hown.alloc (.cells #[.int .i32 0, .string ⟨#[]⟩, .string ⟨#[]⟩] 57))
      have HOWN0 := Lib.hid hown
      have HOB : Hid (∀ x, u9.ownBlock = some x → w.heap.size ≤ x ∧ x < wr.heap.size) := hown.lt
      clear hkp hR hown hds hb2
      by_cases hlt : k < n
      · obtain ⟨m, hm⟩ : ∃ m, n - k = m + 1 := ⟨n - k - 1, by omega⟩
        rw [hm] at HA
        rcases hgr : g l q with ⟨x, q1⟩ | ⟨er, q1⟩
        · rw [hgr] at hget
          have HGET := Lib.hid hget
          have HA2 : Hid (after (ds ++ [x]) (gMany g m l q1) = gMany g n l q0) := by
            show _ = _
            rw [← HA.out, after_step g ds m l q q1 x hgr]
          clear hget hgr HA
          obtain ⟨x0, x1, x2⟩ := x
          go_wp2_with (first
            | (with_reducible refine (HGET.out).mono ?_
               rintro e w3 ⟨⟨v3, rfl, rfl⟩, hk3, hR3⟩
               have hsz3 : wr.heap.size + 1 ≤ w3.heap.size := (by have := hk3.size; simpa using this)
               have hkw := HKP.out.trans hk3
               have hown3 := own_kp HOWN.out hk3 (fun y hy e => by have := (HOWN.out.lt y e).1; simp at hy; omega)
               have hX3 := HXA.out.kp hk3 (by simp; omega)
               have kc := hX3.cell
               have kf := hX3.frozen
               have hset := set3 w3 wr.heap.size (.int .i32 x0) (.string x1) (.string x2) 57
               obtain ⟨hs1, hs2, hs3⟩ := hset
               have HOWN3 : Hid (_root_.Go.World.ownsRow _ _ _ _ _ _ _) := own_kp hown3 hs1 (fun y hy e => by have := (HOB.out y e).2; simp at hy; omega)
               have HK3 := Lib.hid (hkw.to hs1 (Z := [R]) (fun _ h _ => h) (fun y hy hl => by simp at hy; omega))
               have HR3 := Lib.hid (hR3.kp hs1 (by simp; omega) (fun y hy => HNEW.out y (by simp at hy; omega)))
               have HRD3 := Lib.hid hs2
               have HSZ3 := Lib.hid hs3
               clear hk3 hR3 hown3 hX3 hkw hs1 hs2 hs3)
            | (at_builtin
               refine wpList_append_any _ rfl (.tmp 23) (.tmp 25) _ rfl w.heap.size 57 i0 _ 3 40 Tryd.underlying28 hi0 hz0 hz1 hz2 rfl (by decide) u9 k (aclCells ds) rfl HOWN3.out (w3.heap.size + 1) (some ⟨w3.heap.size, 0, none⟩) 1 1 [.int .i32 x0, .string x1, .string x2] rfl HRD3.out (by simp [Value.oneCell']) (by simp only [maxLen]; omega) (by omega) (by rw [HSZ3.out]; omega) ?_
               intro v1 w4 hown4 hg4 hat4
               have HK4 := Lib.hid (HK3.out.to (Kp.of_grown hg4) (fun y hy _ => hy) (fun y hy hl => by have := (HOB.out y (by simpa using hy)).1; omega))
               have HR4 := Lib.hid (HR3.out.kp (Kp.of_grown hg4) (fun hx => by have := (HOB.out R (by simpa using hx)).1; omega) (fun y hy => HNEW.out y (HOB.out y (by simpa using hy)).1))
               have HOWN4 := Lib.hid hown4
               clear hat4 hg4 hown4 kc kf))
          go_roundw
          case rel =>
            refine ⟨k + 1, q1, ds ++ [(x0, x1, x2)], by omega, by go_num, by rw [List.length_append, HD.out]; rfl, ?_, ?_, HK4.out, HR4.out⟩
            · rw [aclCells_snoc]; exact HOWN4.out
            · rw [show n - (k + 1) = m by omega]; exact HA2.out
          case measure => simp [intOf]; omega
        · rw [hgr] at hget
          have HGET := Lib.hid hget
          have hga : gGet most least g l p = .inr (er, q1) := by
            refine HN.out _ ?_
            rw [← HA.out, gMany_succ, hgr]
            rfl
          have HGA := Lib.hid hga
          clear hget hgr hga HA
          go_wp2_with (with_reducible refine (HGET.out).mono ?_
                       rintro e w3 ⟨rfl, hk3, hR3⟩
                       have HK3 := Lib.hid (HKP.out.trans hk3)
                       have HR3 := Lib.hid hR3
                       clear hk3 hR3)
          exact ⟨rfl, Rend.no HGA.out HK3.out HR3.out⟩
      · have hkn : k = n := by omega
        have hga : gGet most least g l p = .inl (ds, q) := by
          refine HN.out _ ?_
          rw [← HA.out, show n - k = 0 by omega]
          show (Sum.inl (ds ++ [], q) : (List AclT × Nat) ⊕ (Int × Nat)) = _
          rw [List.append_nil]
        have HGA := Lib.hid hga
        obtain ⟨A', c', rfl⟩ := slice_form HOWN0.out
        clear hkn hga hget
        go_wp2
        go_ret
        exact Rend.yes HGA.out ⟨A', c', by rw [HD.out]; rfl, by rw [HD.out]; exact HOWN0.out⟩ HKQ.out HR.out
  · rw [hres] at hC
    have HC := Lib.hid hC
    have hga : gGet most least g l p = .inr (er, q0) := by
      unfold gGet Rg.bind
      rw [hres]
    have HGA := Lib.hid hga
    clear hC hres hga
    go_enter Tryd.func68, Tryd.ntmps68
    go_wp2_with (go_at_call 101; refine (HC.out).mono ?_; rintro e w2 ⟨rfl, hkp, hR⟩; have HKP := Lib.hid hkp; have HR := Lib.hid hR; clear hkp hR)
    exact ⟨rfl, Rend.no HGA.out ((Kp.alloc _).trans HKP.out) HR.out⟩
end Go.Proofs.YtaojjjcaofhmcaaDoor
/- A node read: the function that reads its fields: the program's walk. (printed by gen_d1.py) -/
namespace Go.Proofs.YtaojjjcaofhmcaaDoor
open Go.RowKit

/-- what is read of a node -/
structure NdR where
  (p l : List UInt8)
  L : List AclT
  (xs ys : List Int)
  h : Bool
  (c b : Int)
def gNode : Rg NdR := (gText 4096).bind fun p => (gBuf 1048575).bind fun l => (gGet 16 12 gAcl).bind fun L => (gMany gLong 8).bind fun xs => (gMany gInt 3).bind fun ys => gBool.bind fun h => gLong.bind fun c => gLong.map fun b => ⟨p, l, L, xs, ys, h, c, b⟩

/-- integers written into cells, one behind the other -/
def putL (k : IntKind) : Array Value → Nat → List Int → Array Value
  | cs, _, [] => cs
  | cs, i, x :: r => putL k (cs.setIfInBounds i (.int k x)) (i + 1) r
theorem putL_snoc (k : IntKind) (cs : Array Value) (i : Nat) (xs : List Int) (x : Int) : putL k cs i (xs ++ [x]) = (putL k cs i xs).setIfInBounds (i + xs.length) (.int k x) := by
  induction xs generalizing cs i with
  | nil => simp [putL]
  | cons y r ih => rw [List.cons_append, putL, putL, ih, List.length_cons, show i + 1 + r.length = i + (r.length + 1) by omega]
theorem putL_size (k : IntKind) (cs : Array Value) (i : Nat) (xs : List Int) : (putL k cs i xs).size = cs.size := by
  induction xs generalizing cs i with
  | nil => rfl
  | cons y r ih => rw [putL, ih]; simp
theorem list8 {α : Type} {xs : List α} (h : xs.length = 8) : ∃ a0 a1 a2 a3 a4 a5 a6 a7, xs = [a0, a1, a2, a3, a4, a5, a6, a7] := by
  match xs, h with
  | [a0, a1, a2, a3, a4, a5, a6, a7], _ => exact ⟨_, _, _, _, _, _, _, _, rfl⟩
theorem list3 {α : Type} {xs : List α} (h : xs.length = 3) : ∃ a0 a1 a2, xs = [a0, a1, a2] := by
  match xs, h with
  | [a0, a1, a2], _ => exact ⟨_, _, _, rfl⟩
theorem blk_has {w : World} {g : Nat} {t : TypeId} {cs : Array Value} (h : Blk w g t cs) (i : Nat) (hi : i < cs.size) : ∃ u, w.cell? ⟨g, i, none⟩ = some u := ⟨cs[i], by rw [h.cell i, Array.getElem?_eq_getElem hi]⟩

/-- a node's block as it was read -/
def nodeCs (d a : Value) (x : NdR) : Array Value := (((putL .i32 (putL .i64 #[.string ⟨x.p.toArray⟩, d, a, .int .i64 0, .int .i64 0, .int .i64 0, .int .i64 0, .int .i64 0, .int .i64 0, .int .i64 0, .int .i64 0, .int .i32 0, .int .i32 0, .int .i32 0, .bool false, .int .i64 0, .int .i64 0] 3 x.xs) 11 x.ys).setIfInBounds 14 (.bool x.h)).setIfInBounds 15 (.int .i64 x.c)).setIfInBounds 16 (.int .i64 x.b)
def NodeAt (w : World) (base nb : Nat) (x : NdR) : Prop := ∃ dA dc aA ac, Blk w nb 32 (nodeCs (.slice dA x.l.length dc) (.slice aA x.L.length ac) x) ∧ x.xs.length = 8 ∧ x.ys.length = 3 ∧
  w.ownsRow base 5 1 (.slice dA x.l.length dc) x.l.length (bcells x.l) ∧ w.ownsRow base 57 3 (.slice aA x.L.length ac) x.L.length (aclCells x.L)
def DidN (B : Nat → Prop) (R c : Nat) (A : Option Addr) (l : List UInt8) (nb : Nat) (r : (NdR × Nat) ⊕ (Int × Nat)) (w : World) (e : Ending) (w' : World) : Prop :=
  match r with
  | .inl (x, q) => (∃ v, e = .returned v) ∧ NodeAt w' w.heap.size nb x ∧ Kp [R, nb] w w' ∧ Rdr w' B R A c l q
  | .inr (er, q) => e = .panicked (fails R er) ∧ Kp [R, nb] w w' ∧ Rdr w' B R A c l q

/-- the state in the midst -/
structure DSt (w0 : World) (B : Nat → Prop) (R c : Nat) (A : Option Addr) (l : List UInt8) (nb q : Nat) (cs : Array Value) (w : World) : Prop where
  rdr : Rdr w B R A c l q
  blk : Blk w nb 32 cs
  kp : Kp [R, nb] w0 w
  nR : R ≠ nb
  nB : ¬ B nb
  old : R < w0.heap.size ∧ nb < w0.heap.size
section
variable {w0 w w' : World} {B : Nat → Prop} {R c nb q q' : Nat} {A : Option Addr} {l : List UInt8} {cs : Array Value} {er : Int} {r : (NdR × Nat) ⊕ (Int × Nat)}
theorem DSt.read (h : DSt w0 B R c A l nb q cs w) (hk : Kp [R] w w') (hR : Rdr w' B R A c l q') : DSt w0 B R c A l nb q' cs w' :=
  ⟨hR, h.blk.kp hk (by simpa using h.nR.symm), h.kp.to hk (fun _ h _ => h) (fun y hy _ => by simp at hy; simp [hy]), h.nR, h.nB, h.old⟩
theorem DSt.set (h : DSt w0 B R c A l nb q cs w) (i : Nat) (v : Value) : DSt w0 B R c A l nb q (cs.setIfInBounds i v) (w.setCell ⟨nb, i, none⟩ v) :=
  ⟨h.rdr.set h.nR h.nB i v, h.blk.set_ i v, h.kp.set_in (by simp) i v, h.nR, h.nB, h.old⟩
theorem DSt.later (h : DSt w0 B R c A l nb q cs w) (hb : Below w.heap.size w w') : DSt w0 B R c A l nb q cs w' :=
  ⟨h.rdr.later hb, h.blk.below hb h.blk.lt, h.kp.later hb, h.nR, h.nB, h.old⟩
theorem DSt.size (h : DSt w0 B R c A l nb q cs w) : w0.heap.size ≤ w.heap.size := h.kp.size
theorem DSt.no (h : DSt w0 B R c A l nb q cs w) (hk : Kp [R] w w') (hR : Rdr w' B R A c l q') (hr : r = .inr (er, q')) : DidN B R c A l nb r w0 (.panicked (fails R er)) w' := by
  subst hr
  exact ⟨rfl, (h.read hk hR).kp, hR⟩
theorem own_far {X : List Nat} {base size n : Nat} {e : TypeId} {v : Value} {xs : List Value} (h : w.ownsRow base e size v n xs) (hk : Kp X w w') (hX : ∀ x ∈ X, x < base) : w'.ownsRow base e size v n xs :=
  own_kp h hk (fun x hx e => by have := (h.lt x e).1; have := hX x hx; omega)
theorem own_setf {base size n g i : Nat} {e : TypeId} {v u : Value} {xs : List Value} (h : w.ownsRow base e size v n xs) (hg : g < base) : (w.setCell ⟨g, i, none⟩ u).ownsRow base e size v n xs :=
  own_far h (Kp.setCell ⟨g, i, none⟩ u) (by simpa using hg)
end

set_option maxRecDepth 100000 in
set_option maxHeartbeats 8000000 in
theorem decodeF_any (B : Nat → Prop) (R c p nb : Nat) (A : Option Addr) (l : List UInt8) (w : World) (h : DSt w B R c A l nb p #[.string ⟨#[]⟩, .slice none 0 0, .slice none 0 0, .int .i64 0, .int .i64 0, .int .i64 0, .int .i64 0, .int .i64 0, .int .i64 0, .int .i64 0, .int .i64 0, .int .i32 0, .int .i32 0, .int .i32 0, .bool false, .int .i64 0, .int .i64 0] w) :
    Calls Tryd.prog 65 #[.pointer (some ⟨R, 0, none⟩), .pointer (some ⟨nb, 0, none⟩)] w fun e w' => DidN B R c A l nb (gNode l p) w e w' := by
  have hold := h.old
  have H0 := Lib.hid h
  have hent : ∀ (args : Array Value) (W : World), (callFunc 69 args).run Tryd.prog W = .ok (.enter 69 args) W := fun _ _ => by
    have hn : (Tryd.f69.name == "runtime.NumGoroutine") = false := by as_aux_lemma => kernel_rfl
    have hb : Tryd.f69.body.isNone = false := by as_aux_lemma => kernel_rfl
    have hn' : ¬ Tryd.f69.name = "runtime.NumGoroutine" := by simpa using hn
    have hb' : ¬ Tryd.f69.body = none := fun h => by rw [h] at hb; cases hb
    simp [callFunc, Tryd.func69, hn', hb']
  have HENT := Lib.hid hent
  clear h hent
  have ht := rText_any B R c p A l 4096 w H0.out.rdr
  rcases h1 : gText 4096 l p with ⟨s, q1⟩ | ⟨er, q1⟩
  rotate_left
  · rw [h1] at ht
    have HT := Lib.hid ht
    have HG : Hid (gNode l p = .inr (er, q1)) := by unfold Hid; simp only [gNode, Rg.bind, Rg.map, h1]
    clear ht h1
    go_enter Tryd.func65, Tryd.ntmps65
    go_wp2_with (go_at_call 66; refine HT.out.mono ?_; rintro e w2 ⟨rfl, hkp, hR⟩; have HR := Lib.hid (H0.out.no hkp hR HG.out); clear hkp hR)
    exact ⟨rfl, HR.out⟩
  rw [h1] at ht
  have HT := Lib.hid ht
  clear ht
  go_enter Tryd.func65, Tryd.ntmps65
  go_wp2_with (go_at_call 66; refine HT.out.mono ?_; rintro e w2 ⟨⟨v, rfl, rfl⟩, hkp, hR⟩; have H1 := Lib.hid (H0.out.read hkp hR); clear hkp hR; refine Hid.out ?_)
  have kc := H1.out.blk.cell 0
  have kf := H1.out.blk.frozen 0
  simp only [List.getElem?_toArray, List.getElem?_cons_zero] at kc
  have H2 := Lib.hid (H1.out.set 0 (.string ⟨s.toArray⟩))
  simp only [List.setIfInBounds_toArray, List.set_cons_zero, List.set_cons_succ] at H2
  have ht := rBuffer_any B R c q1 A l 1048575 _ H2.out.rdr
  rcases h2 : gBuf 1048575 l q1 with ⟨d, q2⟩ | ⟨er, q2⟩
  rotate_left
  · rw [h2] at ht
    have HT2 := Lib.hid ht
    have HG : Hid (gNode l p = .inr (er, q2)) := by unfold Hid; simp only [gNode, Rg.bind, Rg.map, h1, h2]
    clear ht h1 h2
    refine Lib.hid ?_
    go_wp2_with (go_at_call 67; refine HT2.out.mono ?_; rintro e w3 ⟨rfl, hkp, hR⟩; have HR := Lib.hid (H2.out.no hkp hR HG.out); clear hkp hR)
    exact ⟨rfl, HR.out⟩
  rw [h2] at ht
  have HT2 := Lib.hid ht
  clear ht
  refine Lib.hid ?_
  go_wp2_with (go_at_call 67; refine HT2.out.mono ?_; rintro e w3 ⟨⟨v, rfl, dA, dc, rfl, ho⟩, hkp, hR⟩; have H3 := Lib.hid (H2.out.read hkp hR); have HOD := Lib.hid (own_low ho H2.out.size); clear hkp hR ho kc kf; refine Hid.out ?_)
  have kc := H3.out.blk.cell 1
  have kf := H3.out.blk.frozen 1
  simp only [List.getElem?_toArray, List.getElem?_cons_zero, List.getElem?_cons_succ] at kc
  have H4 := Lib.hid (H3.out.set 1 (.slice dA d.length dc))
  simp only [List.setIfInBounds_toArray, List.set_cons_zero, List.set_cons_succ] at H4
  have HOD4 := Lib.hid (own_setf (g := nb) (i := 1) (u := .slice dA d.length dc) HOD.out hold.2)
  have ht := rGetAcl_any B R c q2 A l 16 12 69 #[] #[] gAcl _ H4.out.rdr HENT.out (fun W q _ hR => rAcl_any B R c q A l W hR)
  rcases h3 : gGet 16 12 gAcl l q2 with ⟨L, q3⟩ | ⟨er, q3⟩
  rotate_left
  · rw [h3] at ht
    have HT3 := Lib.hid ht
    have HG : Hid (gNode l p = .inr (er, q3)) := by unfold Hid; simp only [gNode, Rg.bind, Rg.map, h1, h2, h3]
    clear ht h1 h2 h3
    refine Lib.hid ?_
    go_wp2_with (go_at_call 68; refine HT3.out.mono ?_; rintro e w4 ⟨rfl, hkp, hR⟩; have HR := Lib.hid (H4.out.no hkp hR HG.out); clear hkp hR)
    exact ⟨rfl, HR.out⟩
  rw [h3] at ht
  have HT3 := Lib.hid ht
  clear ht
  refine Lib.hid ?_
  go_wp2_with (go_at_call 68; refine HT3.out.mono ?_; rintro e w4 ⟨⟨v, rfl, aA, ac, rfl, ho⟩, hkp, hR⟩; have H5 := Lib.hid (H4.out.read hkp hR); have HOA := Lib.hid (own_low ho H4.out.size); have HOD5 := Lib.hid (own_far HOD4.out hkp (by simp; exact hold.1)); clear hkp hR ho kc kf; refine Hid.out ?_)
  have kc := H5.out.blk.cell 2
  have kf := H5.out.blk.frozen 2
  simp only [List.getElem?_toArray, List.getElem?_cons_zero, List.getElem?_cons_succ] at kc
  have H6 := Lib.hid (H5.out.set 2 (.slice aA L.length ac))
  simp only [List.setIfInBounds_toArray, List.set_cons_zero, List.set_cons_succ] at H6
  have HOD6 := Lib.hid (own_setf (g := nb) (i := 2) (u := .slice aA L.length ac) HOD5.out hold.2)
  have HOA6 := Lib.hid (own_setf (g := nb) (i := 2) (u := .slice aA L.length ac) HOA.out hold.2)
  obtain ⟨cs3, hcs3⟩ : ∃ cs : Array Value, cs = #[.string ⟨s.toArray⟩, .slice dA d.length dc, .slice aA L.length ac, .int .i64 0, .int .i64 0, .int .i64 0, .int .i64 0, .int .i64 0, .int .i64 0, .int .i64 0, .int .i64 0, .int .i32 0, .int .i32 0, .int .i32 0, .bool false, .int .i64 0, .int .i64 0] := ⟨_, rfl⟩
  rw [← hcs3] at H6
  have HCS := Lib.hid hcs3
  have hsz3 : cs3.size = 17 := by rw [hcs3]; rfl
  have HSZ3 := Lib.hid hsz3
  have HN8 : Hid (∀ e, gMany gLong 8 l q3 = .inr e → gNode l p = .inr e) := fun e h4 => by simp only [gNode, Rg.bind, Rg.map, h1, h2, h3, h4]
  have HN9 : Hid (∀ xs q4, gMany gLong 8 l q3 = .inl (xs, q4) → gNode l p = ((gMany gInt 3).bind fun ys => gBool.bind fun h => gLong.bind fun c => gLong.map fun b => NdR.mk s d L xs ys h c b) l q4) := fun xs q4 h4 => by simp only [gNode, Rg.bind, h1, h2, h3, h4]
  clear h1 h2 h3 hcs3 hsz3
  refine Lib.hid ?_
  go_wp2_with (go_at_call 49; refine (steps_any nb _).mono ?_; rintro e w5 ⟨b1, b2, rfl, hg1, hg2, hp1, hp2, hb⟩; have H7 := Lib.hid (H6.out.later hb); have HP1 := Lib.hid hp1; have HP2 := Lib.hid hp2; have HOD7 := Lib.hid (own_below HOD6.out hb); have HOA7 := Lib.hid (own_below HOA6.out hb); have hgg : b1 ≠ R ∧ b1 ≠ nb ∧ b2 ≠ R ∧ b2 ≠ nb := (by have := H6.out.size; omega); clear hb hp1 hp2 kc kf)
  go_loopw [24] (fun i wr => ∃ (j q : Nat) (xs : List Int), j ≤ 8 ∧ i = .int .i64 j ∧ xs.length = j ∧ Hid (after xs (gMany gLong (8 - j) l q) = gMany gLong 8 l q3) ∧ DSt w B R c A l nb q (putL .i64 cs3 3 xs) wr ∧ Blk wr b1 101 (ptrs nb 3 8) ∧ Blk wr b2 102 (ptrs nb 11 3) ∧
    wr.ownsRow w.heap.size 5 1 (.slice dA d.length dc) d.length (bcells d) ∧ wr.ownsRow w.heap.size 57 3 (.slice aA L.length ac) L.length (aclCells L)) (fun i _ => 8 - (intOf i).toNat)
  case atStart => exact ⟨0, q3, [], Nat.zero_le _, rfl, rfl, by show _ = _; rcases gMany gLong 8 l q3 with ⟨r, q'⟩ | e <;> rfl, H7.out, HP1.out, HP2.out, HOD7.out, HOA7.out⟩
  case round =>
    clear H7 HP1 HP2 HOD7 HOA7
    obtain ⟨j, q, xs, hj, rfl, hxl, HA, hD, hP1, hP2, hod, hoa⟩ := hrel
    have HD := Lib.hid hD
    have HXL := Lib.hid hxl
    have HP1 := Lib.hid hP1
    have HP2 := Lib.hid hP2
    have HOD := Lib.hid hod
    have HOA := Lib.hid hoa
    by_cases hlt : j < 8
    · obtain ⟨m, hm⟩ : ∃ m, 8 - j = m + 1 := ⟨8 - j - 1, by omega⟩
      rw [hm] at HA
      have hc := lit_cell hP1 j (ptrs_get nb 3 8 j hlt)
      have ht := rLong_any B R c q A l wr hD.rdr
      rcases hgr : gLong l q with ⟨z, q1⟩ | ⟨er, q1⟩
      · rw [hgr] at ht
        have HT := Lib.hid ht
        have HA2 : Hid (after (xs ++ [z]) (gMany gLong m l q1) = gMany gLong 8 l q3) := by
          show _ = _
          rw [← HA.out, after_step gLong xs m l q q1 z hgr]
        clear ht hgr HA hD hP1 hP2 hod hoa hxl
        go_wp2_with (go_at_call 71; refine HT.out.mono ?_; rintro e w8 ⟨⟨v, rfl, rfl⟩, hkp, hR⟩; have H8 := Lib.hid (HD.out.read hkp hR); obtain ⟨u, kc⟩ := blk_has H8.out.blk (3 + j) (by rw [putL_size, HSZ3.out]; omega); have kf := H8.out.blk.frozen (3 + j); have HQ1 := Lib.hid ((HP1.out.kp hkp (by simp; exact hgg.1)).far (p := ⟨nb, 3 + j, none⟩) hgg.2.1 (.int .i64 z)); have HQ2 := Lib.hid ((HP2.out.kp hkp (by simp; exact hgg.2.2.1)).far (p := ⟨nb, 3 + j, none⟩) hgg.2.2.2 (.int .i64 z)); have HOD8 := Lib.hid (own_setf (g := nb) (i := 3 + j) (u := .int .i64 z) (own_far HOD.out hkp (by simp; exact hold.1)) hold.2); have HOA8 := Lib.hid (own_setf (g := nb) (i := 3 + j) (u := .int .i64 z) (own_far HOA.out hkp (by simp; exact hold.1)) hold.2); clear hkp hR)
        go_roundw
        case rel => exact ⟨j + 1, q1, xs ++ [z], by omega, by go_num, by rw [List.length_append, HXL.out]; rfl, by rw [show 8 - (j + 1) = m by omega]; exact HA2.out, by rw [putL_snoc, HXL.out]; exact H8.out.set _ _, HQ1.out, HQ2.out, HOD8.out, HOA8.out⟩
        case measure => simp [intOf]; omega
      · rw [hgr] at ht
        have HT := Lib.hid ht
        have hga : gNode l p = .inr (er, q1) := by
          refine HN8.out _ ?_
          rw [← HA.out, gMany_succ, hgr]
          rfl
        have HG := Lib.hid hga
        clear ht hgr hga HA hD hP1 hP2 hod hoa hxl
        go_wp2_with (go_at_call 71; refine HT.out.mono ?_; rintro e w8 ⟨rfl, hkp, hR⟩; have HR := Lib.hid (HD.out.no hkp hR HG.out); clear hkp hR)
        exact ⟨rfl, HR.out⟩
    · have hj8 : j = 8 := by omega
      subst hj8
      have h4 : gMany gLong 8 l q3 = .inl (xs, q) := by
        rw [← HA.out, Nat.sub_self]
        show (Sum.inl (xs ++ [], q) : (List Int × Nat) ⊕ (Int × Nat)) = _
        rw [List.append_nil]
      have HN10 := Lib.hid (HN9.out xs q h4)
      rw [show ((8 : Nat) : Int) = 8 from rfl]
      clear h4 HA HN8 HN9 hD hP1 hP2 hod hoa hxl hlt hj HP1
      rename_i wa _
      go_wp2
      go_loopw [35] (fun i wr => ∃ (j q' : Nat) (ys : List Int), j ≤ 3 ∧ i = .int .i64 j ∧ ys.length = j ∧ Hid (after ys (gMany gInt (3 - j) l q') = gMany gInt 3 l q) ∧ DSt w B R c A l nb q' (putL .i32 (putL .i64 cs3 3 xs) 11 ys) wr ∧ Blk wr b2 102 (ptrs nb 11 3) ∧
        wr.ownsRow w.heap.size 5 1 (.slice dA d.length dc) d.length (bcells d) ∧ wr.ownsRow w.heap.size 57 3 (.slice aA L.length ac) L.length (aclCells L)) (fun i _ => 3 - (intOf i).toNat)
      case atStart => exact ⟨0, q, [], Nat.zero_le _, rfl, rfl, by show _ = _; rcases gMany gInt 3 l q with ⟨r, q'⟩ | e <;> rfl, HD.out, HP2.out, HOD.out, HOA.out⟩
      case round =>
        clear HD HP2 HOD HOA
        obtain ⟨j, q', ys, hj, rfl, hyl, HA, hD, hP2, hod, hoa⟩ := hrel
        have HD := Lib.hid hD
        have HYL := Lib.hid hyl
        have HP2 := Lib.hid hP2
        have HOD := Lib.hid hod
        have HOA := Lib.hid hoa
        by_cases hlt : j < 3
        · obtain ⟨m, hm⟩ : ∃ m, 3 - j = m + 1 := ⟨3 - j - 1, by omega⟩
          rw [hm] at HA
          have hc := lit_cell hP2 j (ptrs_get nb 11 3 j hlt)
          have ht := rInt_any B R c q' A l wr hD.rdr
          rcases hgr : gInt l q' with ⟨z, q1⟩ | ⟨er, q1⟩
          · rw [hgr] at ht
            have HT := Lib.hid ht
            have HA2 : Hid (after (ys ++ [z]) (gMany gInt m l q1) = gMany gInt 3 l q) := by
              show _ = _
              rw [← HA.out, after_step gInt ys m l q' q1 z hgr]
            clear ht hgr HA hD hP2 hod hoa hyl
            go_wp2_with (go_at_call 70; refine HT.out.mono ?_; rintro e w8 ⟨⟨v, rfl, rfl⟩, hkp, hR⟩; have H8 := Lib.hid (HD.out.read hkp hR); obtain ⟨u, kc⟩ := blk_has H8.out.blk (11 + j) (by rw [putL_size, putL_size, HSZ3.out]; omega); have kf := H8.out.blk.frozen (11 + j); have HQ2 := Lib.hid ((HP2.out.kp hkp (by simp; exact hgg.2.2.1)).far (p := ⟨nb, 11 + j, none⟩) hgg.2.2.2 (.int .i32 z)); have HOD8 := Lib.hid (own_setf (g := nb) (i := 11 + j) (u := .int .i32 z) (own_far HOD.out hkp (by simp; exact hold.1)) hold.2); have HOA8 := Lib.hid (own_setf (g := nb) (i := 11 + j) (u := .int .i32 z) (own_far HOA.out hkp (by simp; exact hold.1)) hold.2); clear hkp hR)
            go_roundw
            case rel => exact ⟨j + 1, q1, ys ++ [z], by omega, by go_num, by rw [List.length_append, HYL.out]; rfl, by rw [show 3 - (j + 1) = m by omega]; exact HA2.out, by rw [putL_snoc, HYL.out]; exact H8.out.set _ _, HQ2.out, HOD8.out, HOA8.out⟩
            case measure => simp [intOf]; omega
          · rw [hgr] at ht
            have HT := Lib.hid ht
            have hga : gNode l p = .inr (er, q1) := by
              have h5 : gMany gInt 3 l q = .inr (er, q1) := by
                rw [← HA.out, gMany_succ, hgr]
                rfl
              rw [HN10.out]
              simp only [Rg.bind, h5]
            have HG := Lib.hid hga
            clear ht hgr hga HA hD hP2 hod hoa hyl
            go_wp2_with (go_at_call 70; refine HT.out.mono ?_; rintro e w8 ⟨rfl, hkp, hR⟩; have HR := Lib.hid (HD.out.no hkp hR HG.out); clear hkp hR)
            exact ⟨rfl, HR.out⟩
        · have hj3 : j = 3 := by omega
          subst hj3
          have h5 : gMany gInt 3 l q = .inl (ys, q') := by
            rw [← HA.out, Nat.sub_self]
            show (Sum.inl (ys ++ [], q') : (List Int × Nat) ⊕ (Int × Nat)) = _
            rw [List.append_nil]
          have HN11 : Hid (gNode l p = (gBool.bind fun h => gLong.bind fun c => gLong.map fun b => NdR.mk s d L xs ys h c b) l q') := by
            unfold Hid
            rw [HN10.out]
            simp only [Rg.bind, h5]
          rw [show ((3 : Nat) : Int) = 3 from rfl]
          clear h5 HA HN10 hD hP2 hod hoa hyl hlt hj HP2
          obtain ⟨cs4, hcs4⟩ : ∃ cs, cs = putL .i32 (putL .i64 cs3 3 xs) 11 ys := ⟨_, rfl⟩
          have hsz4 : cs4.size = 17 := by rw [hcs4, putL_size, putL_size, HSZ3.out]
          rw [← hcs4] at HD
          have HC4 := Lib.hid hcs4
          have HSZ4 := Lib.hid hsz4
          have ht := rBool_any B R c q' A l wr HD.out.rdr
          clear hcs4 hsz4
          rcases h6 : gBool l q' with ⟨vb, q6⟩ | ⟨er, q6⟩
          rotate_left
          · rw [h6] at ht
            have HT6 := Lib.hid ht
            have HG : Hid (gNode l p = .inr (er, q6)) := by unfold Hid; rw [HN11.out]; simp only [Rg.bind, Rg.map, h6]
            clear ht h6
            go_wp2_with (go_at_call 72; refine HT6.out.mono ?_; rintro e w8 ⟨rfl, hkp, hR⟩; have HR := Lib.hid (HD.out.no hkp hR HG.out); clear hkp hR)
            exact ⟨rfl, HR.out⟩
          rw [h6] at ht
          have HT6 := Lib.hid ht
          clear ht
          go_wp2_with (go_at_call 72; refine HT6.out.mono ?_; rintro e w8 ⟨⟨v, rfl, rfl⟩, hkp, hR⟩; have H8 := Lib.hid (HD.out.read hkp hR); have HOD8 := Lib.hid (own_far HOD.out hkp (by simp; exact hold.1)); have HOA8 := Lib.hid (own_far HOA.out hkp (by simp; exact hold.1)); clear hkp hR; refine Hid.out ?_)
          obtain ⟨u14, kc⟩ := blk_has H8.out.blk 14 (by rw [HSZ4.out]; omega)
          have kf := H8.out.blk.frozen 14
          have H9 := Lib.hid (H8.out.set 14 (.bool vb))
          have HOD9 := Lib.hid (own_setf (g := nb) (i := 14) (u := .bool vb) HOD8.out hold.2)
          have HOA9 := Lib.hid (own_setf (g := nb) (i := 14) (u := .bool vb) HOA8.out hold.2)
          have ht := rLong_any B R c q6 A l _ H9.out.rdr
          rcases h7 : gLong l q6 with ⟨vc, q7⟩ | ⟨er, q7⟩
          rotate_left
          · rw [h7] at ht
            have HT7 := Lib.hid ht
            have HG : Hid (gNode l p = .inr (er, q7)) := by unfold Hid; rw [HN11.out]; simp only [Rg.bind, Rg.map, h6, h7]
            clear ht h6 h7
            refine Lib.hid ?_
            go_wp2_with (go_at_call 71; refine HT7.out.mono ?_; rintro e w9 ⟨rfl, hkp, hR⟩; have HR := Lib.hid (H9.out.no hkp hR HG.out); clear hkp hR)
            exact ⟨rfl, HR.out⟩
          rw [h7] at ht
          have HT7 := Lib.hid ht
          clear ht
          refine Lib.hid ?_
          go_wp2_with (go_at_call 71; refine HT7.out.mono ?_; rintro e w9 ⟨⟨v, rfl, rfl⟩, hkp, hR⟩; have H10 := Lib.hid (H9.out.read hkp hR); have HOD10 := Lib.hid (own_far HOD9.out hkp (by simp; exact hold.1)); have HOA10 := Lib.hid (own_far HOA9.out hkp (by simp; exact hold.1)); clear hkp hR kc kf; refine Hid.out ?_)
          obtain ⟨u15, kc⟩ := blk_has H10.out.blk 15 (by rw [Array.size_setIfInBounds, HSZ4.out]; omega)
          have kf := H10.out.blk.frozen 15
          have H11 := Lib.hid (H10.out.set 15 (.int .i64 vc))
          have HOD11 := Lib.hid (own_setf (g := nb) (i := 15) (u := .int .i64 vc) HOD10.out hold.2)
          have HOA11 := Lib.hid (own_setf (g := nb) (i := 15) (u := .int .i64 vc) HOA10.out hold.2)
          have ht := rLong_any B R c q7 A l _ H11.out.rdr
          rcases h8 : gLong l q7 with ⟨vd, q8⟩ | ⟨er, q8⟩
          rotate_left
          · rw [h8] at ht
            have HT8 := Lib.hid ht
            have HG : Hid (gNode l p = .inr (er, q8)) := by unfold Hid; rw [HN11.out]; simp only [Rg.bind, Rg.map, h6, h7, h8]
            clear ht h6 h7 h8
            refine Lib.hid ?_
            go_wp2_with (go_at_call 71; refine HT8.out.mono ?_; rintro e w10 ⟨rfl, hkp, hR⟩; have HR := Lib.hid (H11.out.no hkp hR HG.out); clear hkp hR)
            exact ⟨rfl, HR.out⟩
          rw [h8] at ht
          have HT8 := Lib.hid ht
          have HG : Hid (gNode l p = .inl (⟨s, d, L, xs, ys, vb, vc, vd⟩, q8)) := by unfold Hid; rw [HN11.out]; simp only [Rg.bind, Rg.map, h6, h7, h8]
          clear ht h6 h7 h8
          refine Lib.hid ?_
          go_wp2_with (go_at_call 71; refine HT8.out.mono ?_; rintro e w10 ⟨⟨v, rfl, rfl⟩, hkp, hR⟩; have H12 := Lib.hid (H11.out.read hkp hR); have HOD12 := Lib.hid (own_far HOD11.out hkp (by simp; exact hold.1)); have HOA12 := Lib.hid (own_far HOA11.out hkp (by simp; exact hold.1)); clear hkp hR kc kf; obtain ⟨u16, kc⟩ := blk_has H12.out.blk 16 (by rw [Array.size_setIfInBounds, Array.size_setIfInBounds, HSZ4.out]; omega); have kf := H12.out.blk.frozen 16)
          go_end0
          have H13 := H12.out.set 16 (.int .i64 vd)
          have hod := own_setf (g := nb) (i := 16) (u := .int .i64 vd) HOD12.out hold.2
          have hoa := own_setf (g := nb) (i := 16) (u := .int .i64 vd) HOA12.out hold.2
          rw [HC4.out, HCS.out] at H13
          rw [HG.out]
          exact ⟨⟨_, rfl⟩, ⟨dA, dc, aA, ac, H13.blk, HXL.out, HYL.out, hod, hoa⟩, H13.kp, H13.rdr⟩
end Go.Proofs.YtaojjjcaofhmcaaDoor
