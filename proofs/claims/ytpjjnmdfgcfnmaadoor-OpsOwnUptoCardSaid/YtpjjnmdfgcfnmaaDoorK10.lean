/- Part 10 of a proof: lemmas and walks. -/
import Derived.Test.YtpjjnmdfgcfnmaaDoorK8
import Derived.Test.YtpjjnmdfgcfnmaaDoorK7
import Derived.Test.YtpjjnmdfgcfnmaaDoorK9
import Derived.Test.YtpjjnmdfgcfnmaaDoorK3
import Derived.Test.YtpjjnmdfgcfnmaaDoorK6
set_option linter.unusedVariables false
set_option linter.unusedSimpArgs false
set_option maxRecDepth 100000
set_option maxHeartbeats 2000000
namespace Go.Proofs.YtpjjnmdfgcfnmaaDoor
open Go.RowKit

abbrev OqjR1 : Array Value := #[.int .i32 0, .string ⟨#[]⟩, .slice none 0 0, .slice none 0 0, .int .i32 0, .int .i32 0, .bool false, .int .i64 0, .int .i64 0, .int .i64 0, .int .i64 0, .slice none 0 0, .slice none 0 0, .slice none 0 0, .slice none 0 0, .slice none 0 0, .int .i32 0, .slice none 0 0, .slice none 0 0]

def gIdO : Rg (ByteArray × ByteArray) := (gText 256).bind fun s => (gText 256).map fun i => (bs s, bs i)
def vIdO (x : ByteArray × ByteArray) (v : Value) (_ : World) : Prop := v = .agg #[.string x.1, .string x.2]
def vIds (base : Nat) (L : List (ByteArray × ByteArray)) (v : Value) (w : World) : Prop := ∃ A' c', v = .slice A' L.length c' ∧ w.ownsRow base 72 2 v L.length (idCells L)
def gAcl : Rg AclT := gInt.bind fun z => gIdO.map fun i => (z, i)
def vAcl (x : AclT) (v : Value) (_ : World) : Prop := v = .agg #[.int .i32 x.1, .string x.2.1, .string x.2.2]
def vAcls (base : Nat) (L : List AclT) (v : Value) (w : World) : Prop := ∃ A' c', v = .slice A' L.length c' ∧ w.ownsRow base 74 3 v L.length (aclCells L)
theorem aclCells_snoc (L : List AclT) (a : AclT) : aclCells (L ++ [a]) = aclCells L ++ [.int .i32 a.1, .string a.2.1, .string a.2.2] := by simp [aclCells]
theorem Rdr.set {w : World} {B : Nat → Prop} {R c p g : Nat} {A : Option Addr} {l : List UInt8} (h : Rdr w B R A c l p) (hg : R ≠ g) (hB : ¬ B g) (i : Nat) (v : Value) : Rdr (w.setCell ⟨g, i, none⟩ v) B R A c l p :=
 h.kp (Kp.setCell ⟨g, i, none⟩ v) (by simpa using hg) (by simpa using hB)
theorem Kp.set_ {X : List Nat} {w w' : World} (h : Kp X w w') {g : Nat} (hg : w.heap.size ≤ g) (i : Nat) (v : Value) : Kp X w (w'.setCell ⟨g, i, none⟩ v) :=
 h.to (Kp.setCell ⟨g, i, none⟩ v) (fun _ h _ => h) (fun y hy hl => by simp at hy; omega)
theorem Kp.later {X : List Nat} {w w' w'' : World} (h : Kp X w w') (hb : Below w'.heap.size w' w'') : Kp X w w'' := h.to (Kp.of_below (X := []) hb) (fun _ h _ => h) (fun _ h => by cases h)


theorem rIdO_any (B : Nat → Prop) (R c p : Nat) (A : Option Addr) (l : List UInt8) (w : World) (h : Rdr w B R A c l p) :
 Calls Tryd.prog 99 #[.pointer (some ⟨R, 0, none⟩)] w fun e w' => Rend B R c A l vIdO (gIdO l p) w e w' := by
 obtain ⟨w1, hw1⟩ := xa w #[.string ⟨#[]⟩, .string ⟨#[]⟩] 72
 have hb1 := zV hw1
 have hS := zW hw1
 have hz1 : w1.heap.size = w.heap.size + 1 := by rw [← hw1]; simp
 have hRl := h.lt
 have hI := rText_any B R c p A l 256 w1 (h.later hb1)
 have HT : Hid (∀ q W, Rdr W B R A c l q → Calls Tryd.prog 89 #[.pointer (some ⟨R, 0, none⟩), .int .i64 256] W fun e w' => Rend B R c A l vText (gText 256 l q) W e w') := fun q W h => rText_any B R c q A l 256 W h
 have HNB : Hid (∀ x, w.heap.size ≤ x → R ≠ x ∧ ¬ B x) := fun x hx => ⟨by omega, h.new (by omega)⟩
 have HB1 := Hi hb1
 have HS := Hi hS
 clear hb1 hS h
 rcases h1 : gText 256 l p with ⟨s, q1⟩ | ⟨er, q1⟩
 rotate_left
 · rw [h1] at hI
   have HI := Hi hI
   have HG : Hid (gIdO l p = .inr (er, q1)) := by unfold Hid gIdO Rg.bind; rw [h1]
   clear hI h1
   go_enter Tryd.func99, Tryd.ntmps99
   go_wp2_with (go_at_call 89; refine HI.out.mono ?_; rintro e w2 ⟨rfl, hkp, hR⟩; have HKP := Hi hkp; have HR := Hi hR; clear hkp hR)
   exact ⟨rfl, Rend.no HG.out ((Kp.of_below HB1.out).trans HKP.out) HR.out⟩
 rw [h1] at hI
 have HI := Hi hI
 clear hI
 go_enter Tryd.func99, Tryd.ntmps99
 go_wp2_with (go_at_call 89; refine HI.out.mono ?_; rintro e w2 ⟨⟨v, rfl, rfl⟩, hkp, hR⟩; have hz2 := hkp.size; have HKP := Hi hkp; have HR := Hi hR; clear hkp hR; refine Hid.out ?_)
 have HS2 : Hid (Blk w2 w.heap.size 72 #[.string ⟨#[]⟩, .string ⟨#[]⟩]) := HS.out.kp HKP.out (by simp; omega)
 have ht := HT.out q1 _ HR.out
 have HK2 : Hid (Kp [R] w w2) := (Kp.of_below HB1.out).trans HKP.out
 rcases h2 : gText 256 l q1 with ⟨i, q2⟩ | ⟨er, q2⟩
 rotate_left
 · rw [h2] at ht
   have HT2 := Hi ht
   have HG : Hid (gIdO l p = .inr (er, q2)) := by unfold Hid gIdO Rg.bind Rg.map; rw [h1]; dsimp only; rw [h2]
   clear ht h1 h2
   refine Hi ?_
   go_wp2_with (go_at_call 89; refine HT2.out.mono ?_; rintro e w4 ⟨rfl, hkp, hR⟩; have HK4 := Hi (HK2.out.trans hkp); have HR4 := Hi hR; clear hkp hR)
   exact ⟨rfl, Rend.no HG.out HK4.out HR4.out⟩
 rw [h2] at ht
 have HT2 := Hi ht
 have HG : Hid (gIdO l p = .inl ((bs s, bs i), q2)) := by unfold Hid gIdO Rg.bind Rg.map; rw [h1]; dsimp only; rw [h2]
 clear ht h1 h2
 refine Hi ?_
 go_wp2_with (go_at_call 89; refine HT2.out.mono ?_; rintro e w4 ⟨⟨v, rfl, rfl⟩, hkp, hR⟩; have HK4 := Hi (HK2.out.trans hkp); have HR4 := Hi hR; have hS4 := HS2.out.kp hkp (by simp; omega); have lc := hS4.cell; have lf := hS4.frozen; clear hkp hR hS4)
 refine bodyPost_ret (v := .agg #[.string ⟨s.toArray⟩, .string ⟨i.toArray⟩]) (by simp [results, Tryd.results99, go_sem, lc, lf]) rfl ?_
 clear lc lf
 refine Rend.yes HG.out rfl ?_ ?_
 · repeat (first | exact HK4.out | refine Kp.set_ ?_ (by omega) _ _)
 · repeat (first | exact HR4.out | refine Rdr.set ?_ (by omega) (HNB.out _ (by omega)).2 _ _)
theorem rAcl_any (B : Nat → Prop) (R c p : Nat) (A : Option Addr) (l : List UInt8) (w : World) (h : Rdr w B R A c l p) :
 Calls Tryd.prog 105 #[.pointer (some ⟨R, 0, none⟩)] w fun e w' => Rend B R c A l vAcl (gAcl l p) w e w' := by
 obtain ⟨w1, hw1⟩ := xa w #[.int .i32 0, .string ⟨#[]⟩, .string ⟨#[]⟩] 74
 have hb1 := zV hw1
 have hS := zW hw1
 have hz1 : w1.heap.size = w.heap.size + 1 := by rw [← hw1]; simp
 have hRl := h.lt
 have hI := rInt_any B R c p A l w1 (h.later hb1)
 have HT : Hid (∀ q W, Rdr W B R A c l q → Calls Tryd.prog 99 #[.pointer (some ⟨R, 0, none⟩)] W fun e w' => Rend B R c A l vIdO (gIdO l q) W e w') := fun q W h => rIdO_any B R c q A l W h
 have HNB : Hid (∀ x, w.heap.size ≤ x → R ≠ x ∧ ¬ B x) := fun x hx => ⟨by omega, h.new (by omega)⟩
 have HB1 := Hi hb1
 have HS := Hi hS
 clear hb1 hS h
 rcases h1 : gInt l p with ⟨z, q1⟩ | ⟨er, q1⟩
 rotate_left
 · rw [h1] at hI
   have HI := Hi hI
   have HG : Hid (gAcl l p = .inr (er, q1)) := by unfold Hid gAcl Rg.bind; rw [h1]
   clear hI h1
   go_enter Tryd.func105, Tryd.ntmps105
   go_wp2_with (go_at_call 29; refine HI.out.mono ?_; rintro e w2 ⟨rfl, hkp, hR⟩; have HKP := Hi hkp; have HR := Hi hR; clear hkp hR)
   exact ⟨rfl, Rend.no HG.out ((Kp.of_below HB1.out).trans HKP.out) HR.out⟩
 rw [h1] at hI
 have HI := Hi hI
 clear hI
 go_enter Tryd.func105, Tryd.ntmps105
 go_wp2_with (go_at_call 29; refine HI.out.mono ?_; rintro e w2 ⟨⟨v, rfl, rfl⟩, hkp, hR⟩; have hz2 := hkp.size; have HKP := Hi hkp; have HR := Hi hR; clear hkp hR; refine Hid.out ?_)
 have HS2 : Hid (Blk w2 w.heap.size 74 #[.int .i32 0, .string ⟨#[]⟩, .string ⟨#[]⟩]) := HS.out.kp HKP.out (by simp; omega)
 have ht := HT.out q1 _ HR.out
 have HK2 : Hid (Kp [R] w w2) := (Kp.of_below HB1.out).trans HKP.out
 rcases h2 : gIdO l q1 with ⟨⟨s, i⟩, q2⟩ | ⟨er, q2⟩
 rotate_left
 · rw [h2] at ht
   have HT2 := Hi ht
   have HG : Hid (gAcl l p = .inr (er, q2)) := by unfold Hid gAcl Rg.bind Rg.map; rw [h1]; dsimp only; rw [h2]
   clear ht h1 h2
   refine Hi ?_
   go_wp2_with (go_at_call 99; refine HT2.out.mono ?_; rintro e w4 ⟨rfl, hkp, hR⟩; have HK4 := Hi (HK2.out.trans hkp); have HR4 := Hi hR; clear hkp hR)
   exact ⟨rfl, Rend.no HG.out HK4.out HR4.out⟩
 rw [h2] at ht
 have HT2 := Hi ht
 have HG : Hid (gAcl l p = .inl ((z, s, i), q2)) := by unfold Hid gAcl Rg.bind Rg.map; rw [h1]; dsimp only; rw [h2]
 clear ht h1 h2
 refine Hi ?_
 go_wp2_with (go_at_call 99; refine HT2.out.mono ?_; rintro e w4 ⟨⟨v, rfl, rfl⟩, hkp, hR⟩; have HK4 := Hi (HK2.out.trans hkp); have HR4 := Hi hR; have hS4 := HS2.out.kp hkp (by simp; omega); have lc := hS4.cell; have lf := hS4.frozen; clear hkp hR hS4)
 refine bodyPost_ret (v := .agg #[.int .i32 z, .string s, .string i]) (by simp [results, Tryd.results105, go_sem, lc, lf]) rfl ?_
 clear lc lf
 refine Rend.yes HG.out rfl ?_ ?_
 · repeat (first | exact HK4.out | refine Kp.set_ ?_ (by omega) _ _)
 · repeat (first | exact HR4.out | refine Rdr.set ?_ (by omega) (HNB.out _ (by omega)).2 _ _)

theorem acls_make0 (w : World) : (Instr.makeSlice 23 (.int .i64 0) (.int .i64 0)).run Tryd.prog w = .ok (.slice (some ⟨w.heap.size, 0, none⟩) 0 0) (w.alloc (.cells #[] 74)) := by kernel_rfl
theorem aclget_ne (F : FuncId) (first cap : Array Value) (w : World) : (binOp .neq 144 (.func (.func F) first cap) .nilFunc).run Tryd.prog w = .ok (.bool true) w := by kernel_rfl
theorem reads_lit3 (w : World) (t : TypeId) (x y z : Value) : Reads (w.alloc (.cells #[x, y, z] t)) (w.heap.size + 1) 3 (some ⟨w.heap.size, 0, none⟩) 1 [x, y, z] :=
 ⟨by simp, fun _ => ⟨_, rfl, Nat.lt_succ_self _, fun j u hu => by
   have h := (Blk.new w t #[x, y, z]).cell j
   rw [zN, Nat.zero_add, h]
   simpa using hu⟩⟩

theorem set3 (w : World) (g : Nat) (x y z : Value) (t : TypeId) : Kp [g] w ((((w.setCell ⟨g, 0, none⟩ x).setCell ⟨g, 1, none⟩ y).setCell ⟨g, 2, none⟩ z).alloc (.cells #[x, y, z] t)) ∧
 Reads ((((w.setCell ⟨g, 0, none⟩ x).setCell ⟨g, 1, none⟩ y).setCell ⟨g, 2, none⟩ z).alloc (.cells #[x, y, z] t)) (w.heap.size + 1) 3 (some ⟨w.heap.size, 0, none⟩) 1 [x, y, z] ∧
 ((((w.setCell ⟨g, 0, none⟩ x).setCell ⟨g, 1, none⟩ y).setCell ⟨g, 2, none⟩ z).alloc (.cells #[x, y, z] t)).heap.size = w.heap.size + 1 := by
 have e : (((w.setCell ⟨g, 0, none⟩ x).setCell ⟨g, 1, none⟩ y).setCell ⟨g, 2, none⟩ z).heap.size = w.heap.size := by simp
 have h := reads_lit3 (((w.setCell ⟨g, 0, none⟩ x).setCell ⟨g, 1, none⟩ y).setCell ⟨g, 2, none⟩ z) t x y z
 rw [e] at h
 exact ⟨((Kp.setCell ⟨g, 0, none⟩ x).trans ((Kp.setCell ⟨g, 1, none⟩ y).trans (Kp.setCell ⟨g, 2, none⟩ z))).trans (Kp.alloc _), h, by simp⟩

theorem rGetAcl_any (B : Nat → Prop) (R c p : Nat) (A : Option Addr) (l : List UInt8) (most least : Int) (F : FuncId) (first cap : Array Value) (g : Rg AclT) (w : World) (h : Rdr w B R A c l p) (hent : ∀ (args : Array Value) (W : World), (callFunc F args).run Tryd.prog W = .ok (.enter F args) W)
 (hg : ∀ W q, Kp [R] w W → Rdr W B R A c l q → Calls Tryd.prog F (first.push (.pointer (some ⟨R, 0, none⟩)) ++ cap) W fun e w' => Rend B R c A l vAcl (g l q) W e w') :
 Calls Tryd.prog 104 #[.pointer (some ⟨R, 0, none⟩), .int .i64 most, .int .i64 least, .func (.func F) first cap] w fun e w' => Rend B R c A l (vAcls w.heap.size) (gGet most least g l p) w e w' := by
 obtain ⟨i0, hi0, hz0, hz1, hz2⟩ := info_parts acl_info
 have hC := rCount_any B R c p A l most least (w.alloc (.cells #[] 74)) (h.later (zT.alloc zR _))
 have H := Hi h
 have HG := Hi hg
 have hne := aclget_ne F first cap
 have hmk := acls_make0
 have hRl := h.lt
 have hnew : ∀ y, w.heap.size ≤ y → ¬ B y := fun y hy => h.new (by omega)
 have HNEW := Hi hnew
 clear hnew
 clear hg h
 rcases hres : gCount most least l p with ⟨n, q0⟩ | ⟨er, q0⟩
 · rw [hres] at hC
   have HC := Hi hC
   have hnb : n ≤ 2147483647 := gCount_bd hres
   have HN : Hid (∀ e, gMany g n l q0 = e → gGet most least g l p = e) := by
    intro e he
    unfold gGet Rg.bind
    rw [hres]
    exact he
   clear hC hres
   go_enter Tryd.func104, Tryd.ntmps104
   go_wp2_with (go_at_call 100; refine (HC.out).mono ?_; rintro e w2 ⟨⟨v, rfl, rfl⟩, hkp, hR⟩; have HKP := Hi hkp; have HR := Hi hR; clear hkp hR)
   go_loopw [9, 16] (fun v i wr => ∃ (k q : Nat) (ds : List AclT), k ≤ n ∧ i = .int .i64 k ∧ ds.length = k ∧ wr.ownsRow w.heap.size 74 3 v k (aclCells ds) ∧ Hid (after ds (gMany g (n - k) l q) = gMany g n l q0) ∧ Kp [R] w wr ∧ Rdr wr B R A c l q) (fun _ i _ => n - (intOf i).toNat)
   case atStart =>
    exact ⟨0, q0, [], Nat.zero_le _, rfl, rfl, own_kp (World.ownsRow_made w #[] 0 zR (by decide) rfl) HKP.out (fun x hx e => by simp [Value.ownBlock] at hx e; omega), by show _ = _; rcases gMany g n l q0 with ⟨r, q'⟩ | e <;> rfl, (Kp.alloc _).trans HKP.out, HR.out⟩
   case round =>
    clear HKP HR
    obtain ⟨k, q, ds, hk, rfl, hds, hown, HA, hkp, hR⟩ := hrel
    have hb2 : Below wr.heap.size wr (wr.alloc (.cells #[.int .i32 0, .string ⟨#[]⟩, .string ⟨#[]⟩] 74)) := zT.alloc zR _
    have HXA : Hid (Blk (wr.alloc (.cells #[.int .i32 0, .string ⟨#[]⟩, .string ⟨#[]⟩] 74)) wr.heap.size 74 #[.int .i32 0, .string ⟨#[]⟩, .string ⟨#[]⟩]) := Blk.new _ _ _
    have HKP := Hi (hkp.later hb2)
    have HKQ := Hi hkp
    have HR := Hi hR
    have HD := Hi hds
    have hsz := hkp.size
    have hget := HG.out _ q HKP.out (hR.later hb2)
    have HOWN := Hi (hown.alloc (.cells #[.int .i32 0, .string ⟨#[]⟩, .string ⟨#[]⟩] 74))
    have HOWN0 := Hi hown
    have HOB : Hid (∀ x, u9.ownBlock = some x → w.heap.size ≤ x ∧ x < wr.heap.size) := hown.lt
    clear hkp hR hown hds hb2
    by_cases hlt : k < n
    · obtain ⟨m, hm⟩ : ∃ m, n - k = m + 1 := ⟨n - k - 1, by omega⟩
      rw [hm] at HA
      rcases hgr : g l q with ⟨x, q1⟩ | ⟨er, q1⟩
      · rw [hgr] at hget
        have HGET := Hi hget
        have HA2 : Hid (after (ds ++ [x]) (gMany g m l q1) = gMany g n l q0) := by
         show _ = _
         rw [← HA.out, after_step g ds m l q q1 x hgr]
        clear hget hgr HA
        obtain ⟨x0, x1, x2⟩ := x
        go_wp2_with (first
         | (with_reducible refine (HGET.out).mono ?_
            rintro e w3 ⟨⟨v3, rfl, rfl⟩, hk3, hR3⟩
            have hsz3 : wr.heap.size + 1 ≤ w3.heap.size := (by have := hk3.size; simpa using this)
            have hkw := HKP.out.trans hk3
            have hown3 := own_kp HOWN.out hk3 (fun y hy e => by have := (HOWN.out.lt y e).1; simp at hy; omega)
            have hX3 := HXA.out.kp hk3 (by simp; omega)
            have kc := hX3.cell
            have kf := hX3.frozen
            have hset := set3 w3 wr.heap.size (.int .i32 x0) (.string x1) (.string x2) 74
            obtain ⟨hs1, hs2, hs3⟩ := hset
            have HOWN3 : Hid (_root_.Go.World.ownsRow _ _ _ _ _ _ _) := own_kp hown3 hs1 (fun y hy e => by have := (HOB.out y e).2; simp at hy; omega)
            have HK3 := Hi (hkw.to hs1 (Z := [R]) (fun _ h _ => h) (fun y hy hl => by simp at hy; omega))
            have HR3 := Hi (hR3.kp hs1 (by simp; omega) (fun y hy => HNEW.out y (by simp at hy; omega)))
            have HRD3 := Hi hs2
            have HSZ3 := Hi hs3
            clear hk3 hR3 hown3 hX3 hkw hs1 hs2 hs3)
         | (at_builtin
            refine wpList_append_any _ rfl (.tmp 23) (.tmp 25) _ rfl w.heap.size 74 i0 _ 3 40 zU23 hi0 hz0 hz1 hz2 rfl (by decide) u9 k (aclCells ds) rfl HOWN3.out (w3.heap.size + 1) (some ⟨w3.heap.size, 0, none⟩) 1 1 [.int .i32 x0, .string x1, .string x2] rfl HRD3.out (by simp [Value.oneCell']) (by simp only [maxLen]; omega) (by omega) (by rw [HSZ3.out]; omega) ?_
            intro v1 w4 hown4 hg4 hat4
            have HK4 := Hi (HK3.out.to (Kp.of_grown hg4) (fun y hy _ => hy) (fun y hy hl => by have := (HOB.out y (by simpa using hy)).1; omega))
            have HR4 := Hi (HR3.out.kp (Kp.of_grown hg4) (fun hx => by have := (HOB.out R (by simpa using hx)).1; omega) (fun y hy => HNEW.out y (HOB.out y (by simpa using hy)).1))
            have HOWN4 := Hi hown4
            clear hat4 hg4 hown4 kc kf))
        go_roundw
        case rel =>
         refine ⟨k + 1, q1, ds ++ [(x0, x1, x2)], by omega, by go_num, by rw [zG, HD.out]; rfl, ?_, ?_, HK4.out, HR4.out⟩
         · rw [aclCells_snoc]; exact HOWN4.out
         · rw [show n - (k + 1) = m by omega]; exact HA2.out
        case measure => simp [intOf]; omega
      · rw [hgr] at hget
        have HGET := Hi hget
        have hga : gGet most least g l p = .inr (er, q1) := by
         refine HN.out _ ?_
         rw [← HA.out, gMany_succ, hgr]
         rfl
        have HGA := Hi hga
        clear hget hgr hga HA
        go_wp2_with (with_reducible refine (HGET.out).mono ?_
                     rintro e w3 ⟨rfl, hk3, hR3⟩
                     have HK3 := Hi (HKP.out.trans hk3)
                     have HR3 := Hi hR3
                     clear hk3 hR3)
        exact ⟨rfl, Rend.no HGA.out HK3.out HR3.out⟩
    · have hkn : k = n := by omega
      have hga : gGet most least g l p = .inl (ds, q) := by
       refine HN.out _ ?_
       rw [← HA.out, show n - k = 0 by omega]
       show (Sum.inl (ds ++ [], q) : (List AclT × Nat) ⊕ (Int × Nat)) = _
       rw [List.append_nil]
      have HGA := Hi hga
      obtain ⟨A', c', rfl⟩ := slice_form HOWN0.out
      clear hkn hga hget
      go_wp2
      go_ret
      exact Rend.yes HGA.out ⟨A', c', by rw [HD.out]; rfl, by rw [HD.out]; exact HOWN0.out⟩ HKQ.out HR.out
 · rw [hres] at hC
   have HC := Hi hC
   have hga : gGet most least g l p = .inr (er, q0) := by
    unfold gGet Rg.bind
    rw [hres]
   have HGA := Hi hga
   clear hC hres hga
   go_enter Tryd.func104, Tryd.ntmps104
   go_wp2_with (go_at_call 100; refine (HC.out).mono ?_; rintro e w2 ⟨rfl, hkp, hR⟩; have HKP := Hi hkp; have HR := Hi hR; clear hkp hR)
   exact ⟨rfl, Rend.no HGA.out ((Kp.alloc _).trans HKP.out) HR.out⟩

theorem idsO_make0 (w : World) : (Instr.makeSlice 26 (.int .i64 0) (.int .i64 0)).run Tryd.prog w = .ok (.slice (some ⟨w.heap.size, 0, none⟩) 0 0) (w.alloc (.cells #[] 72)) := by kernel_rfl
theorem idget_ne (F : FuncId) (first cap : Array Value) (w : World) : (binOp .neq 139 (.func (.func F) first cap) .nilFunc).run Tryd.prog w = .ok (.bool true) w := by kernel_rfl
theorem reads_lit2 (w : World) (t : TypeId) (x y : Value) : Reads (w.alloc (.cells #[x, y] t)) (w.heap.size + 1) 2 (some ⟨w.heap.size, 0, none⟩) 1 [x, y] :=
 ⟨by simp, fun _ => ⟨_, rfl, Nat.lt_succ_self _, fun j u hu => by
   have h := (Blk.new w t #[x, y]).cell j
   rw [zN, Nat.zero_add, h]
   simpa using hu⟩⟩

theorem set2 (w : World) (g : Nat) (x y : Value) (t : TypeId) : Kp [g] w (((w.setCell ⟨g, 0, none⟩ x).setCell ⟨g, 1, none⟩ y).alloc (.cells #[x, y] t)) ∧
 Reads (((w.setCell ⟨g, 0, none⟩ x).setCell ⟨g, 1, none⟩ y).alloc (.cells #[x, y] t)) (w.heap.size + 1) 2 (some ⟨w.heap.size, 0, none⟩) 1 [x, y] ∧
 (((w.setCell ⟨g, 0, none⟩ x).setCell ⟨g, 1, none⟩ y).alloc (.cells #[x, y] t)).heap.size = w.heap.size + 1 := by
 have e : ((w.setCell ⟨g, 0, none⟩ x).setCell ⟨g, 1, none⟩ y).heap.size = w.heap.size := by simp
 have h := reads_lit2 ((w.setCell ⟨g, 0, none⟩ x).setCell ⟨g, 1, none⟩ y) t x y
 rw [e] at h
 exact ⟨((Kp.setCell ⟨g, 0, none⟩ x).trans (Kp.setCell ⟨g, 1, none⟩ y)).trans (Kp.alloc _), h, by simp⟩

theorem rGetId_any (B : Nat → Prop) (R c p : Nat) (A : Option Addr) (l : List UInt8) (most least : Int) (F : FuncId) (first cap : Array Value) (g : Rg (ByteArray × ByteArray)) (w : World) (h : Rdr w B R A c l p) (hent : ∀ (args : Array Value) (W : World), (callFunc F args).run Tryd.prog W = .ok (.enter F args) W)
 (hg : ∀ W q, Kp [R] w W → Rdr W B R A c l q → Calls Tryd.prog F (first.push (.pointer (some ⟨R, 0, none⟩)) ++ cap) W fun e w' => Rend B R c A l vIdO (g l q) W e w') :
 Calls Tryd.prog 98 #[.pointer (some ⟨R, 0, none⟩), .int .i64 most, .int .i64 least, .func (.func F) first cap] w fun e w' => Rend B R c A l (vIds w.heap.size) (gGet most least g l p) w e w' := by
 obtain ⟨i0, hi0, hz0, hz1, hz2⟩ := info_parts id_info
 have hC := rCount_any B R c p A l most least (w.alloc (.cells #[] 72)) (h.later (zT.alloc zR _))
 have H := Hi h
 have HG := Hi hg
 have hne := idget_ne F first cap
 have hmk := idsO_make0
 have hRl := h.lt
 have hnew : ∀ y, w.heap.size ≤ y → ¬ B y := fun y hy => h.new (by omega)
 have HNEW := Hi hnew
 clear hnew
 clear hg h
 rcases hres : gCount most least l p with ⟨n, q0⟩ | ⟨er, q0⟩
 · rw [hres] at hC
   have HC := Hi hC
   have hnb : n ≤ 2147483647 := gCount_bd hres
   have HN : Hid (∀ e, gMany g n l q0 = e → gGet most least g l p = e) := by
    intro e he
    unfold gGet Rg.bind
    rw [hres]
    exact he
   clear hC hres
   go_enter Tryd.func98, Tryd.ntmps98
   go_wp2_with (go_at_call 100; refine (HC.out).mono ?_; rintro e w2 ⟨⟨v, rfl, rfl⟩, hkp, hR⟩; have HKP := Hi hkp; have HR := Hi hR; clear hkp hR)
   go_loopw [9, 16] (fun v i wr => ∃ (k q : Nat) (ds : List (ByteArray × ByteArray)), k ≤ n ∧ i = .int .i64 k ∧ ds.length = k ∧ wr.ownsRow w.heap.size 72 2 v k (idCells ds) ∧ Hid (after ds (gMany g (n - k) l q) = gMany g n l q0) ∧ Kp [R] w wr ∧ Rdr wr B R A c l q) (fun _ i _ => n - (intOf i).toNat)
   case atStart =>
    exact ⟨0, q0, [], Nat.zero_le _, rfl, rfl, own_kp (World.ownsRow_made w #[] 0 zR (by decide) rfl) HKP.out (fun x hx e => by simp [Value.ownBlock] at hx e; omega), by show _ = _; rcases gMany g n l q0 with ⟨r, q'⟩ | e <;> rfl, (Kp.alloc _).trans HKP.out, HR.out⟩
   case round =>
    clear HKP HR
    obtain ⟨k, q, ds, hk, rfl, hds, hown, HA, hkp, hR⟩ := hrel
    have hb2 : Below wr.heap.size wr (wr.alloc (.cells #[.string ⟨#[]⟩, .string ⟨#[]⟩] 72)) := zT.alloc zR _
    have HXA : Hid (Blk (wr.alloc (.cells #[.string ⟨#[]⟩, .string ⟨#[]⟩] 72)) wr.heap.size 72 #[.string ⟨#[]⟩, .string ⟨#[]⟩]) := Blk.new _ _ _
    have HKP := Hi (hkp.later hb2)
    have HKQ := Hi hkp
    have HR := Hi hR
    have HD := Hi hds
    have hsz := hkp.size
    have hget := HG.out _ q HKP.out (hR.later hb2)
    have HOWN := Hi (hown.alloc (.cells #[.string ⟨#[]⟩, .string ⟨#[]⟩] 72))
    have HOWN0 := Hi hown
    have HOB : Hid (∀ x, u9.ownBlock = some x → w.heap.size ≤ x ∧ x < wr.heap.size) := hown.lt
    clear hkp hR hown hds hb2
    by_cases hlt : k < n
    · obtain ⟨m, hm⟩ : ∃ m, n - k = m + 1 := ⟨n - k - 1, by omega⟩
      rw [hm] at HA
      rcases hgr : g l q with ⟨x, q1⟩ | ⟨er, q1⟩
      · rw [hgr] at hget
        have HGET := Hi hget
        have HA2 : Hid (after (ds ++ [x]) (gMany g m l q1) = gMany g n l q0) := by
         show _ = _
         rw [← HA.out, after_step g ds m l q q1 x hgr]
        clear hget hgr HA
        obtain ⟨x1, x2⟩ := x
        go_wp2_with (first
         | (with_reducible refine (HGET.out).mono ?_
            rintro e w3 ⟨⟨v3, rfl, rfl⟩, hk3, hR3⟩
            have hsz3 : wr.heap.size + 1 ≤ w3.heap.size := (by have := hk3.size; simpa using this)
            have hkw := HKP.out.trans hk3
            have hown3 := own_kp HOWN.out hk3 (fun y hy e => by have := (HOWN.out.lt y e).1; simp at hy; omega)
            have hX3 := HXA.out.kp hk3 (by simp; omega)
            have kc := hX3.cell
            have kf := hX3.frozen
            have hset := set2 w3 wr.heap.size (.string x1) (.string x2) 72
            obtain ⟨hs1, hs2, hs3⟩ := hset
            have HOWN3 : Hid (_root_.Go.World.ownsRow _ _ _ _ _ _ _) := own_kp hown3 hs1 (fun y hy e => by have := (HOB.out y e).2; simp at hy; omega)
            have HK3 := Hi (hkw.to hs1 (Z := [R]) (fun _ h _ => h) (fun y hy hl => by simp at hy; omega))
            have HR3 := Hi (hR3.kp hs1 (by simp; omega) (fun y hy => HNEW.out y (by simp at hy; omega)))
            have HRD3 := Hi hs2
            have HSZ3 := Hi hs3
            clear hk3 hR3 hown3 hX3 hkw hs1 hs2 hs3)
         | (at_builtin
            refine wpList_append_any _ rfl (.tmp 23) (.tmp 25) _ rfl w.heap.size 72 i0 _ 2 32 zU26 hi0 hz0 hz1 hz2 rfl (by decide) u9 k (idCells ds) rfl HOWN3.out (w3.heap.size + 1) (some ⟨w3.heap.size, 0, none⟩) 1 1 [.string x1, .string x2] rfl HRD3.out (by simp [Value.oneCell']) (by simp only [maxLen]; omega) (by omega) (by rw [HSZ3.out]; omega) ?_
            intro v1 w4 hown4 hg4 hat4
            have HK4 := Hi (HK3.out.to (Kp.of_grown hg4) (fun y hy _ => hy) (fun y hy hl => by have := (HOB.out y (by simpa using hy)).1; omega))
            have HR4 := Hi (HR3.out.kp (Kp.of_grown hg4) (fun hx => by have := (HOB.out R (by simpa using hx)).1; omega) (fun y hy => HNEW.out y (HOB.out y (by simpa using hy)).1))
            have HOWN4 := Hi hown4
            clear hat4 hg4 hown4 kc kf))
        go_roundw
        case rel =>
         refine ⟨k + 1, q1, ds ++ [(x1, x2)], by omega, by go_num, by rw [zG, HD.out]; rfl, ?_, ?_, HK4.out, HR4.out⟩
         · rw [idCells_snoc]; exact HOWN4.out
         · rw [show n - (k + 1) = m by omega]; exact HA2.out
        case measure => simp [intOf]; omega
      · rw [hgr] at hget
        have HGET := Hi hget
        have hga : gGet most least g l p = .inr (er, q1) := by
         refine HN.out _ ?_
         rw [← HA.out, gMany_succ, hgr]
         rfl
        have HGA := Hi hga
        clear hget hgr hga HA
        go_wp2_with (with_reducible refine (HGET.out).mono ?_
                     rintro e w3 ⟨rfl, hk3, hR3⟩
                     have HK3 := Hi (HKP.out.trans hk3)
                     have HR3 := Hi hR3
                     clear hk3 hR3)
        exact ⟨rfl, Rend.no HGA.out HK3.out HR3.out⟩
    · have hkn : k = n := by omega
      have hga : gGet most least g l p = .inl (ds, q) := by
       refine HN.out _ ?_
       rw [← HA.out, show n - k = 0 by omega]
       show (Sum.inl (ds ++ [], q) : (List (ByteArray × ByteArray) × Nat) ⊕ (Int × Nat)) = _
       rw [List.append_nil]
      have HGA := Hi hga
      obtain ⟨A', c', rfl⟩ := slice_form HOWN0.out
      clear hkn hga hget
      go_wp2
      go_ret
      exact Rend.yes HGA.out ⟨A', c', by rw [HD.out]; rfl, by rw [HD.out]; exact HOWN0.out⟩ HKQ.out HR.out
 · rw [hres] at hC
   have HC := Hi hC
   have hga : gGet most least g l p = .inr (er, q0) := by
    unfold gGet Rg.bind
    rw [hres]
   have HGA := Hi hga
   clear hC hres hga
   go_enter Tryd.func98, Tryd.ntmps98
   go_wp2_with (go_at_call 100; refine (HC.out).mono ?_; rintro e w2 ⟨rfl, hkp, hR⟩; have HKP := Hi hkp; have HR := Hi hR; clear hkp hR)
   exact ⟨rfl, Rend.no HGA.out ((Kp.alloc _).trans HKP.out) HR.out⟩

theorem rText4096_any (B : Nat → Prop) (R c p : Nat) (A : Option Addr) (l : List UInt8) (w : World) (h : Rdr w B R A c l p) :
 Calls Tryd.prog 88 #[.pointer (some ⟨R, 0, none⟩)] w fun e w' => Rend B R c A l vText (gText 4096 l p) w e w' := by
 have ht := rText_any B R c p A l 4096 w h
 clear h
 rcases hq : gText 4096 l p with ⟨s, q⟩ | ⟨er, q⟩
 all_goals rw [hq] at ht; clear hq
 · have HT := Hi ht
   clear ht
   go_enter Tryd.func88, Tryd.ntmps88
   go_wp2_with (go_at_call 89; refine HT.out.mono ?_; rintro e w2 ⟨⟨v, rfl, rfl⟩, hkp, hR⟩; have HK := Hi hkp; have HR := Hi hR; clear hkp hR)
   go_ret
   exact ⟨⟨_, rfl, rfl⟩, HK.out, HR.out⟩
 · have HT := Hi ht
   clear ht
   go_enter Tryd.func88, Tryd.ntmps88
   go_wp2_with (go_at_call 89; refine HT.out.mono ?_; rintro e w2 ⟨rfl, hkp, hR⟩; have HK := Hi hkp; have HR := Hi hR; clear hkp hR)
   exact ⟨rfl, rfl, HK.out, HR.out⟩
theorem aclGet_any (B : Nat → Prop) (R c p : Nat) (A : Option Addr) (l : List UInt8) (w : World) (h : Rdr w B R A c l p) :
 Calls Tryd.prog 91 #[.pointer (some ⟨R, 0, none⟩)] w fun e w' => Rend B R c A l (vAcls w.heap.size) (gGet 16 12 gAcl l p) w e w' := by
 have ht := rGetAcl_any B R c p A l 16 12 105 #[] #[] gAcl w h (enter_fn Tryd.func105 (by kernel_rfl) (by kernel_rfl)) (fun W q _ hR => rAcl_any B R c q A l W hR)
 clear h
 rcases hq : gGet 16 12 gAcl l p with ⟨s, q⟩ | ⟨er, q⟩
 all_goals rw [hq] at ht; clear hq
 · have HT := Hi ht
   clear ht
   go_enter Tryd.func91, Tryd.ntmps91
   go_wp2_with (go_at_call 104; refine HT.out.mono ?_; rintro e w2 ⟨⟨v, rfl, hv⟩, hkp, hR⟩; have HV := Hi hv; have HK := Hi hkp; have HR := Hi hR; clear hkp hR hv)
   go_ret
   exact ⟨⟨_, rfl, HV.out⟩, HK.out, HR.out⟩
 · have HT := Hi ht
   clear ht
   go_enter Tryd.func91, Tryd.ntmps91
   go_wp2_with (go_at_call 104; refine HT.out.mono ?_; rintro e w2 ⟨rfl, hkp, hR⟩; have HK := Hi hkp; have HR := Hi hR; clear hkp hR)
   exact ⟨rfl, rfl, HK.out, HR.out⟩
theorem aclGetIds_any (B : Nat → Prop) (R c p : Nat) (A : Option Addr) (l : List UInt8) (w : World) (h : Rdr w B R A c l p) :
 Calls Tryd.prog 84 #[.pointer (some ⟨R, 0, none⟩)] w fun e w' => Rend B R c A l (vIds w.heap.size) (gGet 16 8 gIdO l p) w e w' := by
 have ht := rGetId_any B R c p A l 16 8 99 #[] #[] gIdO w h (enter_fn Tryd.func99 (by kernel_rfl) (by kernel_rfl)) (fun W q _ hR => rIdO_any B R c q A l W hR)
 clear h
 rcases hq : gGet 16 8 gIdO l p with ⟨s, q⟩ | ⟨er, q⟩
 all_goals rw [hq] at ht; clear hq
 · have HT := Hi ht
   clear ht
   go_enter Tryd.func84, Tryd.ntmps84
   go_wp2_with (go_at_call 98; refine HT.out.mono ?_; rintro e w2 ⟨⟨v, rfl, hv⟩, hkp, hR⟩; have HV := Hi hv; have HK := Hi hkp; have HR := Hi hR; clear hkp hR hv)
   go_ret
   exact ⟨⟨_, rfl, HV.out⟩, HK.out, HR.out⟩
 · have HT := Hi ht
   clear ht
   go_enter Tryd.func84, Tryd.ntmps84
   go_wp2_with (go_at_call 98; refine HT.out.mono ?_; rintro e w2 ⟨rfl, hkp, hR⟩; have HK := Hi hkp; have HR := Hi hR; clear hkp hR)
   exact ⟨rfl, rfl, HK.out, HR.out⟩

theorem gb_ev {α β : Type} {f : Rg α} {g : α → Rg β} {l : List UInt8} {p q : Nat} {x : α} (h : f l p = .inl (x, q)) : (f.bind g) l p = g x l q := by unfold Rg.bind; rw [h]
theorem gb_no {α β : Type} {f : Rg α} {g : α → Rg β} {l : List UInt8} {p : Nat} {x : Int × Nat} (h : f l p = .inr x) : (f.bind g) l p = .inr x := by unfold Rg.bind; rw [h]
theorem SlAt.kp {w w' : World} {b : Nat} {e : TypeId} {size bytes len : Nat} {s : Sl} {xs : List Value} {X : List Nat} (h : SlAt w (some b) e size bytes s len xs) (hk : Kp X w w') (hX : ∀ x ∈ X, x < b) : SlAt w' (some b) e size bytes s len xs := by
 have ho := own_kp (h.own b rfl) hk (fun x hx e => by have := ((h.own b rfl).lt x e).1; have := hX x hx; omega)
 exact ⟨h.nil, h.le, h.cap, h.reach, h.len, Reads.of_own ho, fun c hc => by injection hc with hc; subst hc; exact ho⟩
theorem SlAt.zero (w : World) (b : Nat) (e : TypeId) (size bytes : Nat) : SlAt w (some b) e size bytes nilS 0 [] :=
 ⟨fun _ => ⟨rfl, rfl⟩, Nat.le_refl _, Nat.zero_le _, (by show 0 * bytes ≤ _; rw [Nat.zero_mul]; exact Nat.zero_le _), rfl, ⟨(by show 0 = 0 * size; rw [Nat.zero_mul]), fun h => absurd h (by decide)⟩, fun b' hb => World.ownsRow_nil _ _ _ _⟩
theorem FAt.kp {w w' : World} {b : Nat} {f : OpF} {d a k0 k1 k2 k3 k4 i : Sl} {X : List Nat} (h : FAt w (some b) f d a k0 k1 k2 k3 k4 i) (hk : Kp X w w') (hX : ∀ x ∈ X, x < b) : FAt w' (some b) f d a k0 k1 k2 k3 k4 i :=
 ⟨h.d.kp hk hX, h.a.kp hk hX, h.k0.kp hk hX, h.k1.kp hk hX, h.k2.kp hk hX, h.k3.kp hk hX, h.k4.kp hk hX, h.i.kp hk hX⟩
theorem FAt.lo {w : World} {b b' : Nat} {f : OpF} {d a k0 k1 k2 k3 k4 i : Sl} (h : FAt w (some b) f d a k0 k1 k2 k3 k4 i) (hb : b' ≤ b) : FAt w (some b') f d a k0 k1 k2 k3 k4 i :=
 ⟨h.d.lo hb, h.a.lo hb, h.k0.lo hb, h.k1.lo hb, h.k2.lo hb, h.k3.lo hb, h.k4.lo hb, h.i.lo hb⟩
def zF (t : Int) : OpF := ⟨t, ⟨#[]⟩, [], [], 0, 0, false, 0, 0, 0, 0, [], [], [], [], [], 0, []⟩
theorem zF_ok {t : Int} (h : (Lit.int .i32 t).wf = true) : (zF t).Ok :=
 ⟨h, rfl, rfl, rfl, rfl, rfl, rfl, rfl, Nat.zero_le _, fun _ h => (by cases h), fun _ h => (by cases h), fun _ h => (by cases h), fun _ h => (by cases h), fun _ h => (by cases h), fun _ h => (by cases h), fun _ h => (by cases h)⟩
structure GSt (w0 : World) (B : Nat → Prop) (R c : Nat) (A : Option Addr) (l : List UInt8) (q : Nat) (f : OpF) (d a k0 k1 k2 k3 k4 i s : Sl) (w : World) : Prop where
 rdr : Rdr w B R A c l q
 blk : Blk w (w0.heap.size + 1) 29 (f.row d a k0 k1 k2 k3 k4 i s).toArray
 res : Blk w w0.heap.size 29 (OqjR1)
 kp : Kp [R] w0 w
 old : R < w0.heap.size
 fat : FAt w (some (w0.heap.size + 2)) f d a k0 k1 k2 k3 k4 i
 ok : f.Ok
theorem GSt.start {w wa w1 : World} {B : Nat → Prop} {R c p : Nat} {A : Option Addr} {l : List UInt8} {t : Int} (h : Rdr w B R A c l p) (ht : (Lit.int .i32 t).wf = true) (hwa : w.alloc (.cells (OqjR1) 29) = wa) (hw1 : wa.alloc (.cells ((zF t).row nilS nilS nilS nilS nilS nilS nilS nilS nilS).toArray 29) = w1) : GSt w B R c A l p (zF t) nilS nilS nilS nilS nilS nilS nilS nilS nilS w1 := by
 have hza : wa.heap.size = w.heap.size + 1 := by rw [← hwa]; simp
 have hba := zV hwa
 have hb1 := zV hw1
 have hb : Below w.heap.size w w1 := hba.trans (hb1.mono hba.size)
 have hna := zW hwa
 have hn1 := zW hw1
 rw [hza] at hn1
 exact ⟨h.later hb, hn1, hna.below hb1 hna.lt, Kp.of_below hb, h.lt, ⟨SlAt.zero _ _ _ _ _, SlAt.zero _ _ _ _ _, SlAt.zero _ _ _ _ _, SlAt.zero _ _ _ _ _, SlAt.zero _ _ _ _ _, SlAt.zero _ _ _ _ _, SlAt.zero _ _ _ _ _, SlAt.zero _ _ _ _ _⟩, zF_ok ht⟩
section
variable {w0 w w' : World} {B : Nat → Prop} {R c q q' : Nat} {A : Option Addr} {l : List UInt8} {f : OpF} {d a k0 k1 k2 k3 k4 i s : Sl}
theorem GSt.read (h : GSt w0 B R c A l q f d a k0 k1 k2 k3 k4 i s w) (hk : Kp [R] w w') (hR : Rdr w' B R A c l q') : GSt w0 B R c A l q' f d a k0 k1 k2 k3 k4 i s w' :=
 ⟨hR, h.blk.kp hk (by have := h.old; simp; omega), h.res.kp hk (by have := h.old; simp; omega), h.kp.trans hk, h.old, h.fat.kp hk (by have := h.old; simp; omega), h.ok⟩
theorem GSt.size (h : GSt w0 B R c A l q f d a k0 k1 k2 k3 k4 i s w) : w0.heap.size + 2 ≤ w.heap.size := h.blk.lt
theorem GSt.set_ (h : GSt w0 B R c A l q f d a k0 k1 k2 k3 k4 i s w) (j : Nat) (u : Value) : Rdr (w.setCell ⟨w0.heap.size + 1, j, none⟩ u) B R A c l q ∧ Blk (w.setCell ⟨w0.heap.size + 1, j, none⟩ u) (w0.heap.size + 1) 29 ((f.row d a k0 k1 k2 k3 k4 i s).toArray.setIfInBounds j u) ∧ Blk (w.setCell ⟨w0.heap.size + 1, j, none⟩ u) w0.heap.size 29 (OqjR1) ∧ Kp [R] w0 (w.setCell ⟨w0.heap.size + 1, j, none⟩ u) ∧ Kp [w0.heap.size + 1] w (w.setCell ⟨w0.heap.size + 1, j, none⟩ u) := by
 have ho := h.old
 exact ⟨h.rdr.set (by omega) (h.rdr.new (by omega)) j u, h.blk.set_ j u, h.res.far (p := ⟨w0.heap.size + 1, j, none⟩) (by simp) u, h.kp.set_ (by omega) j u, Kp.setCell ⟨w0.heap.size + 1, j, none⟩ u⟩
theorem GSt.set_p (h : GSt w0 B R c A l q f d a k0 k1 k2 k3 k4 i s w) {x : ByteArray} (hx : x.size ≤ reachBytes) : GSt w0 B R c A l q { f with p := x } d a k0 k1 k2 k3 k4 i s (w.setCell ⟨w0.heap.size + 1, 1, none⟩ (.string x)) := by
 obtain ⟨h1, h2, h3, h4, h5⟩ := h.set_ 1 (.string x)
 have h6 := h.fat.kp h5 (by simp)
 exact ⟨h1, h2, h3, h4, h.old, ⟨h6.d, h6.a, h6.k0, h6.k1, h6.k2, h6.k3, h6.k4, h6.i⟩, ⟨h.ok.t, h.ok.fl, h.ok.ve, h.ok.ct, h.ok.by_, h.ok.tl, h.ok.zx, h.ok.to, hx, h.ok.acl, h.ok.ids, h.ok.k0, h.ok.k1, h.ok.k2, h.ok.k3, h.ok.k4⟩⟩
theorem GSt.set_d (h : GSt w0 B R c A l q f d a k0 k1 k2 k3 k4 i s w) {x : List UInt8} {A' : Option Addr} {c' : Nat} (ho : w.ownsRow (w0.heap.size + 2) 5 1 (.slice A' x.length c') x.length (bcells x)) (hr : x.length * 1 ≤ reachBytes) : GSt w0 B R c A l q { f with l := x } ⟨A', x.length, c'⟩ a k0 k1 k2 k3 k4 i s (w.setCell ⟨w0.heap.size + 1, 2, none⟩ (.slice A' x.length c')) := by
 obtain ⟨h1, h2, h3, h4, h5⟩ := h.set_ 2 (.slice A' x.length c')
 have h6 := h.fat.kp h5 (by simp)
 exact ⟨h1, h2, h3, h4, h.old, ⟨(SlAt.of_own ho hr).kp h5 (by simp), h6.a, h6.k0, h6.k1, h6.k2, h6.k3, h6.k4, h6.i⟩, ⟨h.ok.t, h.ok.fl, h.ok.ve, h.ok.ct, h.ok.by_, h.ok.tl, h.ok.zx, h.ok.to, h.ok.p, h.ok.acl, h.ok.ids, h.ok.k0, h.ok.k1, h.ok.k2, h.ok.k3, h.ok.k4⟩⟩
theorem GSt.set_a (h : GSt w0 B R c A l q f d a k0 k1 k2 k3 k4 i s w) {x : List AclT} {A' : Option Addr} {c' : Nat} (ho : w.ownsRow (w0.heap.size + 2) 74 3 (.slice A' x.length c') x.length (aclCells x)) (hr : x.length * 40 ≤ reachBytes) (hx : ∀ y ∈ x, (Lit.int .i32 y.1).wf = true ∧ y.2.1.size ≤ reachBytes ∧ y.2.2.size ≤ reachBytes) : GSt w0 B R c A l q { f with L := x } d ⟨A', x.length, c'⟩ k0 k1 k2 k3 k4 i s (w.setCell ⟨w0.heap.size + 1, 3, none⟩ (.slice A' x.length c')) := by
 obtain ⟨h1, h2, h3, h4, h5⟩ := h.set_ 3 (.slice A' x.length c')
 have h6 := h.fat.kp h5 (by simp)
 exact ⟨h1, h2, h3, h4, h.old, ⟨h6.d, (SlAt.of_own ho hr).kp h5 (by simp), h6.k0, h6.k1, h6.k2, h6.k3, h6.k4, h6.i⟩, ⟨h.ok.t, h.ok.fl, h.ok.ve, h.ok.ct, h.ok.by_, h.ok.tl, h.ok.zx, h.ok.to, h.ok.p, hx, h.ok.ids, h.ok.k0, h.ok.k1, h.ok.k2, h.ok.k3, h.ok.k4⟩⟩
theorem GSt.set_fl (h : GSt w0 B R c A l q f d a k0 k1 k2 k3 k4 i s w) {z : Int} (hz : (Lit.int .i32 z).wf = true) : GSt w0 B R c A l q { f with fl := z } d a k0 k1 k2 k3 k4 i s (w.setCell ⟨w0.heap.size + 1, 4, none⟩ (.int .i32 z)) := by
 obtain ⟨h1, h2, h3, h4, h5⟩ := h.set_ 4 (.int .i32 z)
 have h6 := h.fat.kp h5 (by simp)
 exact ⟨h1, h2, h3, h4, h.old, ⟨h6.d, h6.a, h6.k0, h6.k1, h6.k2, h6.k3, h6.k4, h6.i⟩, ⟨h.ok.t, hz, h.ok.ve, h.ok.ct, h.ok.by_, h.ok.tl, h.ok.zx, h.ok.to, h.ok.p, h.ok.acl, h.ok.ids, h.ok.k0, h.ok.k1, h.ok.k2, h.ok.k3, h.ok.k4⟩⟩
theorem GSt.set_ve (h : GSt w0 B R c A l q f d a k0 k1 k2 k3 k4 i s w) {z : Int} (hz : (Lit.int .i32 z).wf = true) : GSt w0 B R c A l q { f with ve := z } d a k0 k1 k2 k3 k4 i s (w.setCell ⟨w0.heap.size + 1, 5, none⟩ (.int .i32 z)) := by
 obtain ⟨h1, h2, h3, h4, h5⟩ := h.set_ 5 (.int .i32 z)
 have h6 := h.fat.kp h5 (by simp)
 exact ⟨h1, h2, h3, h4, h.old, ⟨h6.d, h6.a, h6.k0, h6.k1, h6.k2, h6.k3, h6.k4, h6.i⟩, ⟨h.ok.t, h.ok.fl, hz, h.ok.ct, h.ok.by_, h.ok.tl, h.ok.zx, h.ok.to, h.ok.p, h.ok.acl, h.ok.ids, h.ok.k0, h.ok.k1, h.ok.k2, h.ok.k3, h.ok.k4⟩⟩
theorem GSt.set_wa (h : GSt w0 B R c A l q f d a k0 k1 k2 k3 k4 i s w) (b : Bool) : GSt w0 B R c A l q { f with wa := b } d a k0 k1 k2 k3 k4 i s (w.setCell ⟨w0.heap.size + 1, 6, none⟩ (.bool b)) := by
 obtain ⟨h1, h2, h3, h4, h5⟩ := h.set_ 6 (.bool b)
 have h6 := h.fat.kp h5 (by simp)
 exact ⟨h1, h2, h3, h4, h.old, ⟨h6.d, h6.a, h6.k0, h6.k1, h6.k2, h6.k3, h6.k4, h6.i⟩, ⟨h.ok.t, h.ok.fl, h.ok.ve, h.ok.ct, h.ok.by_, h.ok.tl, h.ok.zx, h.ok.to, h.ok.p, h.ok.acl, h.ok.ids, h.ok.k0, h.ok.k1, h.ok.k2, h.ok.k3, h.ok.k4⟩⟩
theorem GSt.set_ct (h : GSt w0 B R c A l q f d a k0 k1 k2 k3 k4 i s w) {z : Int} (hz : (Lit.int .i64 z).wf = true) : GSt w0 B R c A l q { f with ct := z } d a k0 k1 k2 k3 k4 i s (w.setCell ⟨w0.heap.size + 1, 7, none⟩ (.int .i64 z)) := by
 obtain ⟨h1, h2, h3, h4, h5⟩ := h.set_ 7 (.int .i64 z)
 have h6 := h.fat.kp h5 (by simp)
 exact ⟨h1, h2, h3, h4, h.old, ⟨h6.d, h6.a, h6.k0, h6.k1, h6.k2, h6.k3, h6.k4, h6.i⟩, ⟨h.ok.t, h.ok.fl, h.ok.ve, hz, h.ok.by_, h.ok.tl, h.ok.zx, h.ok.to, h.ok.p, h.ok.acl, h.ok.ids, h.ok.k0, h.ok.k1, h.ok.k2, h.ok.k3, h.ok.k4⟩⟩
theorem GSt.set_by (h : GSt w0 B R c A l q f d a k0 k1 k2 k3 k4 i s w) {z : Int} (hz : (Lit.int .i64 z).wf = true) : GSt w0 B R c A l q { f with by_ := z } d a k0 k1 k2 k3 k4 i s (w.setCell ⟨w0.heap.size + 1, 8, none⟩ (.int .i64 z)) := by
 obtain ⟨h1, h2, h3, h4, h5⟩ := h.set_ 8 (.int .i64 z)
 have h6 := h.fat.kp h5 (by simp)
 exact ⟨h1, h2, h3, h4, h.old, ⟨h6.d, h6.a, h6.k0, h6.k1, h6.k2, h6.k3, h6.k4, h6.i⟩, ⟨h.ok.t, h.ok.fl, h.ok.ve, h.ok.ct, hz, h.ok.tl, h.ok.zx, h.ok.to, h.ok.p, h.ok.acl, h.ok.ids, h.ok.k0, h.ok.k1, h.ok.k2, h.ok.k3, h.ok.k4⟩⟩
theorem GSt.set_tl (h : GSt w0 B R c A l q f d a k0 k1 k2 k3 k4 i s w) {z : Int} (hz : (Lit.int .i64 z).wf = true) : GSt w0 B R c A l q { f with tl := z } d a k0 k1 k2 k3 k4 i s (w.setCell ⟨w0.heap.size + 1, 9, none⟩ (.int .i64 z)) := by
 obtain ⟨h1, h2, h3, h4, h5⟩ := h.set_ 9 (.int .i64 z)
 have h6 := h.fat.kp h5 (by simp)
 exact ⟨h1, h2, h3, h4, h.old, ⟨h6.d, h6.a, h6.k0, h6.k1, h6.k2, h6.k3, h6.k4, h6.i⟩, ⟨h.ok.t, h.ok.fl, h.ok.ve, h.ok.ct, h.ok.by_, hz, h.ok.zx, h.ok.to, h.ok.p, h.ok.acl, h.ok.ids, h.ok.k0, h.ok.k1, h.ok.k2, h.ok.k3, h.ok.k4⟩⟩
theorem GSt.set_zx (h : GSt w0 B R c A l q f d a k0 k1 k2 k3 k4 i s w) {z : Int} (hz : (Lit.int .i64 z).wf = true) : GSt w0 B R c A l q { f with zx := z } d a k0 k1 k2 k3 k4 i s (w.setCell ⟨w0.heap.size + 1, 10, none⟩ (.int .i64 z)) := by
 obtain ⟨h1, h2, h3, h4, h5⟩ := h.set_ 10 (.int .i64 z)
 have h6 := h.fat.kp h5 (by simp)
 exact ⟨h1, h2, h3, h4, h.old, ⟨h6.d, h6.a, h6.k0, h6.k1, h6.k2, h6.k3, h6.k4, h6.i⟩, ⟨h.ok.t, h.ok.fl, h.ok.ve, h.ok.ct, h.ok.by_, h.ok.tl, hz, h.ok.to, h.ok.p, h.ok.acl, h.ok.ids, h.ok.k0, h.ok.k1, h.ok.k2, h.ok.k3, h.ok.k4⟩⟩
theorem GSt.set_to (h : GSt w0 B R c A l q f d a k0 k1 k2 k3 k4 i s w) {z : Int} (hz : (Lit.int .i32 z).wf = true) : GSt w0 B R c A l q (⟨f.t, f.p, f.l, f.L, f.fl, f.ve, f.wa, f.ct, f.by_, f.tl, f.zx, f.K0, f.K1, f.K2, f.K3, f.K4, z, f.I⟩ : OpF) d a k0 k1 k2 k3 k4 i s (w.setCell ⟨w0.heap.size + 1, 16, none⟩ (.int .i32 z)) := by
 obtain ⟨h1, h2, h3, h4, h5⟩ := h.set_ 16 (.int .i32 z)
 have h6 := h.fat.kp h5 (by simp)
 exact ⟨h1, h2, h3, h4, h.old, ⟨h6.d, h6.a, h6.k0, h6.k1, h6.k2, h6.k3, h6.k4, h6.i⟩, ⟨h.ok.t, h.ok.fl, h.ok.ve, h.ok.ct, h.ok.by_, h.ok.tl, h.ok.zx, hz, h.ok.p, h.ok.acl, h.ok.ids, h.ok.k0, h.ok.k1, h.ok.k2, h.ok.k3, h.ok.k4⟩⟩
theorem GSt.set_i (h : GSt w0 B R c A l q f d a k0 k1 k2 k3 k4 i s w) {x : List (ByteArray × ByteArray)} {A' : Option Addr} {c' : Nat} (ho : w.ownsRow (w0.heap.size + 2) 72 2 (.slice A' x.length c') x.length (idCells x)) (hr : x.length * 32 ≤ reachBytes) (hx : ∀ y ∈ x, y.1.size ≤ reachBytes ∧ y.2.size ≤ reachBytes) : GSt w0 B R c A l q { f with I := x } d a k0 k1 k2 k3 k4 ⟨A', x.length, c'⟩ s (w.setCell ⟨w0.heap.size + 1, 17, none⟩ (.slice A' x.length c')) := by
 obtain ⟨h1, h2, h3, h4, h5⟩ := h.set_ 17 (.slice A' x.length c')
 have h6 := h.fat.kp h5 (by simp)
 exact ⟨h1, h2, h3, h4, h.old, ⟨h6.d, h6.a, h6.k0, h6.k1, h6.k2, h6.k3, h6.k4, (SlAt.of_own ho hr).kp h5 (by simp)⟩, ⟨h.ok.t, h.ok.fl, h.ok.ve, h.ok.ct, h.ok.by_, h.ok.tl, h.ok.zx, h.ok.to, h.ok.p, h.ok.acl, hx, h.ok.k0, h.ok.k1, h.ok.k2, h.ok.k3, h.ok.k4⟩⟩
theorem GSt.fin (h : GSt w0 B R c A l q f d a k0 k1 k2 k3 k4 i s w) (cs : Array Value) : Kp [R] w0 (w.setRow w0.heap.size cs) ∧ Rdr (w.setRow w0.heap.size cs) B R A c l q ∧ FAt (w.setRow w0.heap.size cs) (some w0.heap.size) f d a k0 k1 k2 k3 k4 i := by
 have ho := h.old
 have hk : Kp [w0.heap.size] w (w.setRow w0.heap.size cs) := Kp.setRow _ _
 exact ⟨h.kp.to hk (fun _ hx _ => hx) (fun y hy hl => by simp at hy; omega), h.rdr.kp hk (by simp; omega) (fun x hx => h.rdr.new (by simp at hx; omega)), (h.fat.kp hk (by simp)).lo (by omega)⟩
end
def vOpF (base : Nat) (f : OpF) (v : Value) (w : World) : Prop := ∃ d a k0 k1 k2 k3 k4 i : Sl, v = .agg (f.row d a k0 k1 k2 k3 k4 i nilS).toArray ∧ FAt w (some base) f d a k0 k1 k2 k3 k4 i ∧ f.Ok
theorem gBuf_most {m : Int} {l x : List UInt8} {p q : Nat} (h : gBuf m l p = .inl (x, q)) : (x.length : Int) ≤ m := by
 unfold gBuf at h
 split at h
 · rename_i n q' hs
   obtain ⟨_, _, hm, _, _⟩ := gSize_inl hs
   split at h
   · injection h with h
     injection h with h1 h2
     subst h1
     have : ((l.drop q').take n).length ≤ n := by rw [List.length_take]; omega
     omega
   · cases h
 · cases h
theorem gText_most {m : Int} {l x : List UInt8} {p q : Nat} (h : gText m l p = .inl (x, q)) : (x.length : Int) ≤ m := by
 unfold gText at h
 split at h
 · rename_i b q' hs
   have := gBuf_most hs
   split at h
   · injection h with h
     injection h with h1 h2
     subst h1
     exact this
   · cases h
 · cases h
theorem bs_size (x : List UInt8) : (bs x).size = x.length := by simp [bs, ByteArray.size]
theorem gInt_wf {l : List UInt8} {p q : Nat} {z : Int} (h : gInt l p = .inl (z, q)) : (Lit.int .i32 z).wf = true := by
 obtain ⟨_, hz, _⟩ := gInt_inl h
 have := wrap32_bd (beNum ((l.drop p).take 4))
 rw [hz]
 show (decide (IntKind.min .i32 ≤ _) && decide (_ ≤ IntKind.max .i32)) = true
 rw [show IntKind.min .i32 = -2147483648 from by decide, show IntKind.max .i32 = 2147483647 from by decide]
 simp only [Bool.and_eq_true, decide_eq_true_eq]
 exact this
theorem gLong_wf {l : List UInt8} {p q : Nat} {z : Int} (h : gLong l p = .inl (z, q)) : (Lit.int .i64 z).wf = true := by
 unfold gLong Rg.map at h
 split at h
 · injection h with h
   injection h with h1 h2
   rw [← h1]
   rename_i x _ _
   have : -9223372036854775808 ≤ wrap64 (x : Int) ∧ wrap64 (x : Int) ≤ 9223372036854775807 := by unfold wrap64; omega
   show (decide (IntKind.min .i64 ≤ _) && decide (_ ≤ IntKind.max .i64)) = true
   rw [show IntKind.min .i64 = -9223372036854775808 from by decide, show IntKind.max .i64 = 9223372036854775807 from by decide]
   simp only [Bool.and_eq_true, decide_eq_true_eq]
   exact this
 · cases h
theorem gMany_all {α : Type} {g : Rg α} {Q : α → Prop} (hg : ∀ l p x q, g l p = .inl (x, q) → Q x) : ∀ (n : Nat) {l : List UInt8} {p q : Nat} {L : List α}, gMany g n l p = .inl (L, q) → L.length = n ∧ ∀ x ∈ L, Q x
 | 0, l, p, q, L, h => by
   injection h with h
   injection h with h1 h2
   subst h1
   exact ⟨rfl, fun _ hx => by cases hx⟩
 | n + 1, l, p, q, L, h => by
   rw [gMany_succ] at h
   rcases h1 : g l p with ⟨x, q1⟩ | e
   · rw [h1] at h
     dsimp only at h
     rcases h2 : gMany g n l q1 with ⟨r, q2⟩ | e
     · rw [h2] at h
       injection h with h
       injection h with h3 h4
       subst h3
       obtain ⟨h5, h6⟩ := gMany_all hg n h2
       exact ⟨by rw [zM, h5], fun y hy => by
        rcases zH.1 hy with rfl | hy
        · exact hg _ _ _ _ h1
        · exact h6 y hy⟩
     · rw [h2] at h; cases h
   · rw [h1] at h; cases h
theorem gCount_most {most least : Int} {l : List UInt8} {p q n : Nat} (h : gCount most least l p = .inl (n, q)) : (n : Int) ≤ most := by
 unfold gCount at h
 split at h
 · rename_i n' q' hs
   obtain ⟨_, _, hm, _, _⟩ := gSize_inl hs
   split at h
   · cases h
   · injection h with h
     injection h with h1 h2
     omega
 · cases h
theorem gGet_all {α : Type} {g : Rg α} {Q : α → Prop} (hg : ∀ l p x q, g l p = .inl (x, q) → Q x) {most least : Int} {l : List UInt8} {p q : Nat} {L : List α} (h : gGet most least g l p = .inl (L, q)) : (L.length : Int) ≤ most ∧ ∀ x ∈ L, Q x := by
 unfold gGet at h
 rcases h1 : gCount most least l p with ⟨n, q1⟩ | e
 · rw [gb_ev h1] at h
   obtain ⟨h2, h3⟩ := gMany_all hg n h
   exact ⟨by rw [h2]; exact gCount_most h1, h3⟩
 · rw [gb_no h1] at h; cases h
theorem gIdO_ok {l : List UInt8} {p q : Nat} {x : ByteArray × ByteArray} (h : gIdO l p = .inl (x, q)) : x.1.size ≤ 256 ∧ x.2.size ≤ 256 := by
 unfold gIdO at h
 rcases h1 : gText 256 l p with ⟨s, q1⟩ | e
 · rw [gb_ev h1] at h
   unfold Rg.map at h
   rcases h2 : gText 256 l q1 with ⟨i, q2⟩ | e
   · rw [h2] at h
     injection h with h
     injection h with h3 h4
     subst h3
     have := gText_most h1
     have := gText_most h2
     rw [bs_size, bs_size]
     constructor <;> omega
   · rw [h2] at h; cases h
 · rw [gb_no h1] at h; cases h
theorem gAcl_ok {l : List UInt8} {p q : Nat} {x : AclT} (h : gAcl l p = .inl (x, q)) : (Lit.int .i32 x.1).wf = true ∧ x.2.1.size ≤ 256 ∧ x.2.2.size ≤ 256 := by
 unfold gAcl at h
 rcases h1 : gInt l p with ⟨z, q1⟩ | e
 · rw [gb_ev h1] at h
   unfold Rg.map at h
   rcases h2 : gIdO l q1 with ⟨i, q2⟩ | e
   · rw [h2] at h
     injection h with h
     injection h with h3 h4
     subst h3
     exact ⟨gInt_wf h1, gIdO_ok h2⟩
   · rw [h2] at h; cases h
 · rw [gb_no h1] at h; cases h

def gFld (t : Int) : Rg OpF :=
 if t ∈ ([1, 15, 19] : List Int) then (gText 4096).bind fun x1 => (gBuf 1048575).bind fun x2 => (gGet 16 12 gAcl).bind fun x3 => (gInt).bind fun x4 => Rg.ret ({ { { { zF t with p := bs x1 } with l := x2 } with L := x3 } with fl := x4 } : OpF)
 else if t ∈ ([21] : List Int) then (gText 4096).bind fun x1 => (gBuf 1048575).bind fun x2 => (gGet 16 12 gAcl).bind fun x3 => (gInt).bind fun x4 => (gLong).bind fun x5 => Rg.ret ({ { { { { zF t with p := bs x1 } with l := x2 } with L := x3 } with fl := x4 } with tl := x5 } : OpF)
 else if t ∈ ([2, 13] : List Int) then (gText 4096).bind fun x1 => (gInt).bind fun x2 => Rg.ret ({ { zF t with p := bs x1 } with ve := x2 } : OpF)
 else if t ∈ ([5] : List Int) then (gText 4096).bind fun x1 => (gBuf 1048575).bind fun x2 => (gInt).bind fun x3 => Rg.ret ({ { { zF t with p := bs x1 } with l := x2 } with ve := x3 } : OpF)
 else if t ∈ ([7] : List Int) then (gText 4096).bind fun x1 => (gGet 16 12 gAcl).bind fun x2 => (gInt).bind fun x3 => Rg.ret ({ { { zF t with p := bs x1 } with L := x2 } with ve := x3 } : OpF)
 else if t ∈ ([120] : List Int) then (gText 4096).bind fun x1 => (gLong).bind fun x2 => (gLong).bind fun x3 => Rg.ret ({ { { zF t with p := bs x1 } with ct := x2 } with by_ := x3 } : OpF)
 else if t ∈ ([121, 6, 9, 103, 104] : List Int) then (gText 4096).bind fun x1 => Rg.ret ({ zF t with p := bs x1 } : OpF)
 else if t ∈ ([3, 4, 8, 12] : List Int) then (gText 4096).bind fun x1 => (gBool).bind fun x2 => Rg.ret ({ { zF t with p := bs x1 } with wa := x2 } : OpF)
 else if t ∈ ([106, 18] : List Int) then (gText 4096).bind fun x1 => (gInt).bind fun x2 => Rg.ret ({ { zF t with p := bs x1 } with fl := x2 } : OpF)
 else if t ∈ ([-10] : List Int) then (gInt).bind fun x1 => (gGet 16 8 gIdO).bind fun x2 => Rg.ret ({ (⟨(zF t).t, (zF t).p, (zF t).l, (zF t).L, (zF t).fl, (zF t).ve, (zF t).wa, (zF t).ct, (zF t).by_, (zF t).tl, (zF t).zx, (zF t).K0, (zF t).K1, (zF t).K2, (zF t).K3, (zF t).K4, x1, (zF t).I⟩ : OpF) with I := x2 } : OpF)
 else Rg.ret (zF t)
def gTexts : Rg (List (List UInt8)) := gGet 1024 4 (gText 4096)
def gW5 (f : OpF) : Rg OpF := Rg.ret f
def gW4 (f : OpF) : Rg OpF := gTexts.bind fun x => gW5 { f with K4 := x.map bs }
def gW3 (f : OpF) : Rg OpF := gTexts.bind fun x => gW4 { f with K3 := x.map bs }
def gW2 (f : OpF) : Rg OpF := gTexts.bind fun x => gW3 { f with K2 := x.map bs }
def gW1 (f : OpF) : Rg OpF := gTexts.bind fun x => gW2 { f with K1 := x.map bs }
def gW0 (f : OpF) : Rg OpF := gTexts.bind fun x => gW1 { f with K0 := x.map bs }
def gWat : Rg OpF := gLong.bind fun z => gW0 { zF 101 with zx := z }

def Atb (l : List UInt8) (p : Nat) (d : List UInt8) : Prop := p + d.length ≤ l.length ∧ (l.drop p).take d.length = d
theorem Atb.left {l : List UInt8} {p : Nat} {d e : List UInt8} (h : Atb l p (d ++ e)) : Atb l p d := by
 obtain ⟨h1, h2⟩ := h
 rw [zG] at h1 h2
 refine ⟨by omega, ?_⟩
 have h3 := congrArg (List.take d.length) h2
 rw [List.take_take, Nat.min_eq_left (Nat.le_add_right _ _), List.take_left] at h3
 exact h3
theorem Atb.right {l : List UInt8} {p : Nat} {d e : List UInt8} (h : Atb l p (d ++ e)) : Atb l (p + d.length) e := by
 obtain ⟨h1, h2⟩ := h
 rw [zG] at h1 h2
 refine ⟨by omega, ?_⟩
 have h3 := congrArg (List.drop d.length) h2
 rw [List.drop_take, List.drop_drop, List.drop_left, Nat.add_sub_cancel_left] at h3
 exact h3
theorem Atb.all (l : List UInt8) : Atb l 0 l := ⟨by omega, by simp⟩
theorem next_atb {l : List UInt8} {p : Nat} {d : List UInt8} (h : Atb l p d) : gNext d.length l p = .inl (d, p + d.length) := by
 unfold gNext
 rw [if_pos h.1, h.2]
theorem num_atb {l : List UInt8} {p : Nat} {d : List UInt8} (h : Atb l p d) : gNum d.length l p = .inl (beNum d, p + d.length) := by
 unfold gNum Rg.map
 rw [next_atb h]
theorem be_back (n k : Nat) : ∀ m, (beBytes n k).foldl (fun n b => n * 256 + b.toNat) m = m * 256 ^ k + n % 256 ^ k := by
 induction k with
 | zero => intro m; simp [beBytes, Nat.mod_one]
 | succ k ih =>
   intro m
   have h1 : n % 256 ^ (k + 1) = n % 256 ^ k + 256 ^ k * (n / 256 ^ k % 256) := Nat.mod_pow_succ
   have h2 : m * 256 ^ (k + 1) = m * 256 * 256 ^ k := by rw [Nat.pow_succ, Nat.mul_assoc, Nat.mul_comm 256]
   have h3 : (UInt8.ofNat (n / 256 ^ k)).toNat = n / 256 ^ k % 256 := UInt8.toNat_ofNat'
   rw [beBytes, List.foldl_cons, ih, h3, h1, h2, Nat.add_mul, Nat.mul_comm (n / 256 ^ k % 256)]
   omega
theorem beNum_back (n k : Nat) : beNum (beBytes n k) = n % 256 ^ k := by
 unfold beNum
 rw [be_back]
 simp
theorem bool_atb {l : List UInt8} {p : Nat} {b : Bool} (h : Atb l p (bBool b)) : gBool l p = .inl (b, p + 1) := by
 have h2 : gNum 1 l p = .inl (beNum (bBool b), p + 1) := num_atb h
 unfold gBool
 rw [h2]
 cases b <;> simp [beNum, bBool]
theorem int_atb {l : List UInt8} {p : Nat} {z : Int} (h : Atb l p (bInt z)) : gInt l p = .inl (wrap32 z, p + 4) := by
 have h2 : gNum 4 l p = .inl (beNum (bInt z), p + 4) := by
  have h2 := num_atb h
  rwa [bInt_len] at h2
 unfold gInt Rg.map
 rw [h2]
 have e : wrap32 ((beNum (bInt z) : Nat) : Int) = wrap32 z := by
  have h3 : beNum (bInt z) = u32N z % 256 ^ 4 := beNum_back _ _
  have h4 := u32N_cast z
  rw [h3]
  unfold wrap32
  omega
 simp only [e]
theorem long_atb {l : List UInt8} {p : Nat} {z : Int} (h : Atb l p (bLong z)) : gLong l p = .inl (wrap64 z, p + 8) := by
 have h2 : gNum 8 l p = .inl (beNum (bLong z), p + 8) := by
  have h2 := num_atb h
  rwa [bLong_len] at h2
 unfold gLong Rg.map
 rw [h2]
 have e : wrap64 ((beNum (bLong z) : Nat) : Int) = wrap64 z := by
  have h3 : beNum (bLong z) = u64N z % 256 ^ 8 := beNum_back _ _
  have h4 := u64N_cast z
  rw [h3]
  unfold wrap64
  omega
 simp only [e]
theorem size_atb {l : List UInt8} {p n : Nat} {most : Int} (h : Atb l p (bInt n)) (hn : n ≤ 2147483647) (hm : (n : Int) ≤ most) : gSize most l p = .inl (n, p + 4) := by
 unfold gSize
 rw [int_atb h]
 have e : wrap32 (n : Int) = n := by unfold wrap32; omega
 rw [e]
 dsimp only
 rw [if_neg (by omega)]
 simp
theorem buf_atb {l : List UInt8} {p : Nat} {b : List UInt8} {most : Int} (h : Atb l p (bBuf b)) (hn : b.length ≤ 2147483647) (hm : (b.length : Int) ≤ most) : gBuf most l p = .inl (b, p + 4 + b.length) := by
 unfold bBuf at h
 have h2 := h.right
 rw [bInt_len] at h2
 unfold gBuf
 rw [size_atb h.left hn hm]
 dsimp only
 rw [if_pos h2.1, h2.2]
theorem gText_inl {most : Int} {l x : List UInt8} {p q : Nat} (h : gText most l p = .inl (x, q)) : gBuf most l p = .inl (x, q) ∧ Lib.validD x = true := by
 unfold gText at h
 split at h
 · split at h
   · simp only [Sum.inl.injEq, Prod.mk.injEq] at h
     obtain ⟨rfl, rfl⟩ := h
     exact ⟨by assumption, by assumption⟩
   · cases h
 · cases h
theorem Rg.map_inl {α β : Type} {f : α → β} {g : Rg α} {l : List UInt8} {p q : Nat} {y : β} (h : g.map f l p = .inl (y, q)) : ∃ x, g l p = .inl (x, q) ∧ y = f x := by
 unfold Rg.map at h
 split at h
 · rename_i x r hx
   simp only [Sum.inl.injEq, Prod.mk.injEq] at h
   obtain ⟨rfl, rfl⟩ := h
   exact ⟨x, hx, rfl⟩
 · cases h

theorem be_num (d : List UInt8) : ∀ m, beBytes (m * 256 ^ d.length + beNum d) d.length = d := by
 have hc : ∀ (b : UInt8) (d : List UInt8), beNum (b :: d) = b.toNat * 256 ^ d.length + beNum d := by
  intro b d
  have h : ∀ (d : List UInt8) (n : Nat), d.foldl (fun n b => n * 256 + b.toNat) n = n * 256 ^ d.length + beNum d := by
   intro d
   induction d with
   | nil => intro n; simp [beNum]
   | cons a d ih =>
     intro n
     have e1 := ih (n * 256 + a.toNat)
     have e2 := ih a.toNat
     simp only [List.foldl_cons, zM, beNum, Nat.zero_mul, Nat.zero_add] at e1 e2 ⊢
     rw [e1, e2, Nat.pow_succ, Nat.add_mul, Nat.mul_assoc, Nat.mul_comm 256]
     omega
  have := h d b.toNat
  simp only [beNum, List.foldl_cons, Nat.zero_mul, Nat.zero_add] at this ⊢
  exact this
 induction d with
 | nil => intro m; rfl
 | cons b d ih =>
   intro m
   have hlt := beNum_lt d
   have hp : 0 < 256 ^ d.length := Nat.pow_pos (by decide)
   have e : m * 256 ^ (b :: d).length + beNum (b :: d) = (m * 256 + b.toNat) * 256 ^ d.length + beNum d := by
    rw [hc, zM, Nat.pow_succ, Nat.add_mul, Nat.mul_assoc, Nat.mul_comm 256]
    omega
   rw [e, zM]
   simp only [beBytes]
   rw [ih, Nat.mul_comm _ (256 ^ d.length), Nat.mul_add_div hp, Nat.div_eq_of_lt hlt, Nat.add_zero]
   congr 1
   apply UInt8.toNat_inj.1
   rw [UInt8.toNat_ofNat']
   have := b.toNat_lt
   omega
theorem num_back {k : Nat} {l : List UInt8} {p n q : Nat} (h : gNum k l p = .inl (n, q)) : beBytes n k = (l.drop p).take k ∧ q = p + k ∧ q ≤ l.length := by
 obtain ⟨h1, rfl, h3, _⟩ := gNum_inl h
 have hl : ((l.drop p).take k).length = k := by rw [List.length_take, List.length_drop]; omega
 have := be_num ((l.drop p).take k) 0
 rw [hl, Nat.zero_mul, Nat.zero_add] at this
 exact ⟨this, h3, by omega⟩
theorem int_back {l : List UInt8} {p q : Nat} {z : Int} (h : gInt l p = .inl (z, q)) : bInt z = (l.drop p).take 4 ∧ q = p + 4 ∧ q ≤ l.length := by
 unfold gInt at h
 obtain ⟨n, hn, rfl⟩ := Rg.map_inl h
 obtain ⟨h1, h2, h3⟩ := num_back hn
 have hb := (gNum_inl hn).2.2.2
 refine ⟨?_, h2, h3⟩
 have e : u32N (wrap32 (n : Int)) = n := by unfold u32N wrap32; omega
 unfold bInt
 rw [e, h1]
theorem long_back {l : List UInt8} {p q : Nat} {z : Int} (h : gLong l p = .inl (z, q)) : bLong z = (l.drop p).take 8 ∧ q = p + 8 ∧ q ≤ l.length := by
 unfold gLong at h
 obtain ⟨n, hn, rfl⟩ := Rg.map_inl h
 obtain ⟨h1, h2, h3⟩ := num_back hn
 have hb := (gNum_inl hn).2.2.2
 refine ⟨?_, h2, h3⟩
 have e : u64N (wrap64 (n : Int)) = n := by unfold u64N wrap64; rw [IntKind.wrap_u64]; omega
 unfold bLong
 rw [e, h1]
theorem take_two (l : List UInt8) (p a b : Nat) : (l.drop p).take (a + b) = (l.drop p).take a ++ (l.drop (p + a)).take b := by
 rw [List.take_add, List.drop_drop]
theorem buf_back {most : Int} {l x : List UInt8} {p q : Nat} (h : gBuf most l p = .inl (x, q)) : bBuf x = (l.drop p).take (q - p) ∧ p ≤ q ∧ q ≤ l.length := by
 unfold gBuf at h
 split at h
 · rename_i n q' hs
   obtain ⟨_, rfl, _, _, hi⟩ := gSize_inl hs
   obtain ⟨hb, _, _⟩ := int_back hi
   split at h
   · rename_i hle
     simp only [Sum.inl.injEq, Prod.mk.injEq] at h
     obtain ⟨rfl, rfl⟩ := h
     have hl : ((l.drop (p + 4)).take n).length = n := by rw [List.length_take, List.length_drop]; omega
     refine ⟨?_, by omega, by omega⟩
     rw [show p + 4 + n - p = 4 + n by omega, take_two]
     unfold bBuf
     rw [hl, hb]
   · cases h
 · cases h
theorem text_back {most : Int} {l x : List UInt8} {p q : Nat} (h : gText most l p = .inl (x, q)) : bBuf x = (l.drop p).take (q - p) ∧ p ≤ q ∧ q ≤ l.length := buf_back (gText_inl h).1
theorem count_back {most least : Int} {l : List UInt8} {p q n : Nat} (h : gCount most least l p = .inl (n, q)) : bInt n = (l.drop p).take 4 ∧ q = p + 4 ∧ q ≤ l.length := by
 unfold gCount at h
 split at h
 · rename_i n' q' hs
   split at h
   · cases h
   · simp only [Sum.inl.injEq, Prod.mk.injEq] at h
     obtain ⟨rfl, rfl⟩ := h
     exact int_back (gSize_inl hs).2.2.2.2
 · cases h
theorem bind_inl {α β : Type} {f : Rg α} {g : α → Rg β} {l : List UInt8} {p q : Nat} {y : β} (h : f.bind g l p = .inl (y, q)) : ∃ x q1, f l p = .inl (x, q1) ∧ g x l q1 = .inl (y, q) := by
 unfold Rg.bind at h
 rcases hr : f l p with ⟨x, q1⟩ | ⟨e1, q1⟩
 · rw [hr] at h; exact ⟨x, q1, rfl, h⟩
 · rw [hr] at h; cases h
theorem map_inl {α β : Type} {f : α → β} {g : Rg α} {l : List UInt8} {p q : Nat} {y : β} (h : g.map f l p = .inl (y, q)) : ∃ x, g l p = .inl (x, q) ∧ f x = y := by
 unfold Rg.map at h
 rcases hr : g l p with ⟨x, q1⟩ | ⟨e1, q1⟩
 · rw [hr] at h; injection h with h; injection h with h1 h2; subst h1 h2; exact ⟨x, rfl, rfl⟩
 · rw [hr] at h; cases h
def Bk (l : List UInt8) (p q : Nat) (d : List UInt8) : Prop := d = (l.drop p).take (q - p) ∧ p ≤ q ∧ q ≤ l.length
theorem Bk.app {l : List UInt8} {p q r : Nat} {d e : List UInt8} (h1 : Bk l p q d) (h2 : Bk l q r e) : Bk l p r (d ++ e) := by
 obtain ⟨rfl, a1, a2⟩ := h1
 obtain ⟨rfl, b1, b2⟩ := h2
 refine ⟨?_, by omega, b2⟩
 rw [show r - p = (q - p) + (r - q) by omega, take_two, show p + (q - p) = q by omega]
theorem Bk.nil (l : List UInt8) (p : Nat) (h : p ≤ l.length) : Bk l p p [] := ⟨by simp, Nat.le_refl _, h⟩
theorem int_bk {l : List UInt8} {p q : Nat} {z : Int} (h : gInt l p = .inl (z, q)) : Bk l p q (bInt z) := by
 obtain ⟨h1, h2, h3⟩ := int_back h
 exact ⟨by rw [h1, h2, Nat.add_sub_cancel_left], by omega, h3⟩
theorem long_bk {l : List UInt8} {p q : Nat} {z : Int} (h : gLong l p = .inl (z, q)) : Bk l p q (bLong z) := by
 obtain ⟨h1, h2, h3⟩ := long_back h
 exact ⟨by rw [h1, h2, Nat.add_sub_cancel_left], by omega, h3⟩

def Sure {α : Type} (g : Rg α) : Prop := ∀ l p e q, g l p = .inr (e, q) → e ≠ 0
theorem Sure.bind {α β : Type} {f : Rg α} {g : α → Rg β} (hf : Sure f) (hg : ∀ x, Sure (g x)) : Sure (f.bind g) := fun l p e q h => by
 unfold Rg.bind at h
 rcases hr : f l p with ⟨x, q1⟩ | ⟨e1, q1⟩
 · rw [hr] at h; exact hg x _ _ _ _ h
 · rw [hr] at h; injection h with h; injection h with h1 h2; subst h1; exact hf _ _ _ _ hr
theorem Sure.map {α β : Type} {f : α → β} {g : Rg α} (hg : Sure g) : Sure (g.map f) := fun l p e q h => by
 unfold Rg.map at h
 rcases hr : g l p with ⟨x, q1⟩ | ⟨e1, q1⟩
 · rw [hr] at h; cases h
 · rw [hr] at h; injection h with h; injection h with h1 h2; subst h1; exact hg _ _ _ _ hr
theorem sure_next (k : Nat) : Sure (gNext k) := fun l p e q h => by
 unfold gNext at h
 split at h
 · cases h
 · injection h with h; injection h with h1 _; subst h1; decide
theorem sure_num (k : Nat) : Sure (gNum k) := (sure_next k).map
theorem sure_int : Sure gInt := (sure_num 4).map
theorem sure_long : Sure gLong := (sure_num 8).map
theorem sure_bool : Sure gBool := fun l p e q h => by
 unfold gBool at h
 rcases hr : gNum 1 l p with ⟨x, q1⟩ | ⟨e1, q1⟩
 · rw [hr] at h
   dsimp only at h
   split at h
   · injection h with h; injection h with h1 _; subst h1; decide
   · cases h
 · rw [hr] at h; injection h with h; injection h with h1 _; subst h1; exact sure_num 1 _ _ _ _ hr
theorem sure_size (m : Int) : Sure (gSize m) := fun l p e q h => by
 unfold gSize at h
 rcases hr : gInt l p with ⟨x, q1⟩ | ⟨e1, q1⟩
 · rw [hr] at h
   dsimp only at h
   split at h
   · injection h with h; injection h with h1 _; subst h1; decide
   · cases h
 · rw [hr] at h; injection h with h; injection h with h1 _; subst h1; exact sure_int _ _ _ _ hr
theorem sure_buf (m : Int) : Sure (gBuf m) := fun l p e q h => by
 unfold gBuf at h
 rcases hr : gSize m l p with ⟨x, q1⟩ | ⟨e1, q1⟩
 · rw [hr] at h
   dsimp only at h
   split at h
   · cases h
   · injection h with h; injection h with h1 _; subst h1; decide
 · rw [hr] at h; injection h with h; injection h with h1 _; subst h1; exact sure_size m _ _ _ _ hr
theorem sure_text (m : Int) : Sure (gText m) := fun l p e q h => by
 unfold gText at h
 rcases hr : gBuf m l p with ⟨x, q1⟩ | ⟨e1, q1⟩
 · rw [hr] at h
   dsimp only at h
   split at h
   · cases h
   · injection h with h; injection h with h1 _; subst h1; decide
 · rw [hr] at h; injection h with h; injection h with h1 _; subst h1; exact sure_buf m _ _ _ _ hr
theorem sure_count (m k : Int) : Sure (gCount m k) := fun l p e q h => by
 unfold gCount at h
 rcases hr : gSize m l p with ⟨x, q1⟩ | ⟨e1, q1⟩
 · rw [hr] at h
   dsimp only at h
   split at h
   · injection h with h; injection h with h1 _; subst h1; decide
   · cases h
 · rw [hr] at h; injection h with h; injection h with h1 _; subst h1; exact sure_size m _ _ _ _ hr
theorem Sure.many {α : Type} {g : Rg α} (hg : Sure g) (n : Nat) : Sure (gMany g n) := by
 induction n with
 | zero => intro l p e q h; cases h
 | succ n ih => exact Sure.bind hg fun x => Sure.map ih
theorem Sure.get {α : Type} {g : Rg α} (hg : Sure g) (m k : Int) : Sure (gGet m k g) := Sure.bind (sure_count m k) fun n => hg.many n
def allE {α : Type} (l : List UInt8) (r : (α × Nat) ⊕ (Int × Nat)) : Int := match r with | .inl (_, q) => if q < l.length then 21 else 0 | .inr (e, _) => e
def rOf {α : Type} : (α × Nat) ⊕ (Int × Nat) → Nat ⊕ (Int × Nat)
 | .inl (_, q) => .inl q
 | .inr e => .inr e
theorem rAllE_of {α : Type} {g : Rg α} (hg : Sure g) (l : List UInt8) (p : Nat) : rAllE l (rOf (g l p)) = allE l (g l p) := by
 rcases hr : g l p with ⟨x, q⟩ | ⟨e, q⟩
 · unfold rAllE allE rOf rE rAt
   by_cases h : q < l.length <;> simp [h]
 · have h := hg _ _ _ _ hr
   unfold rAllE allE rOf rE rAt
   simp [h]
end Go.Proofs.YtpjjnmdfgcfnmaaDoor
