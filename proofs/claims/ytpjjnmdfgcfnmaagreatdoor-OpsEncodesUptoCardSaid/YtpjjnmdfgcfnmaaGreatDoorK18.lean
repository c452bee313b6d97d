/- Part 18 of a proof: lemmas and walks. -/
import Derived.Test.YtpjjnmdfgcfnmaaGreatDoorK17
import Derived.Test.YtpjjnmdfgcfnmaaGreatDoorK15
import Derived.Test.YtpjjnmdfgcfnmaaGreatDoorK14
import Derived.Test.YtpjjnmdfgcfnmaaGreatDoorK16
import Derived.Test.YtpjjnmdfgcfnmaaGreatDoorK13
import Derived.Test.YtpjjnmdfgcfnmaaGreatDoorK1
import Derived.Test.YtpjjnmdfgcfnmaaGreatDoorK0
import Derived.Test.YtpjjnmdfgcfnmaaGreatDoorK7
set_option linter.unusedVariables false
set_option linter.unusedSimpArgs false
set_option maxRecDepth 100000
set_option maxHeartbeats 32000000
namespace Go.Proofs.YtpjjnmdfgcfnmaaGreatDoor
open Go.RowKit

theorem refRight_any {w : World} {lo : Option Nat} {x : OpC} {xs : List Value} (h : At w lo x xs) (hnb : x.nodes ≤ 1000000000) :
 Calls Tryz.prog 14 #[.agg xs.toArray] w fun e w' => e = .returned (.int .i64 x.rightE) ∧ Below w.heap.size w w' := by
 have HALL : Hid (∀ W, Below w.heap.size w W → Calls Tryz.prog 34 #[.agg xs.toArray] W fun e w' => e = .returned (.int .i64 x.allE) ∧ Below W.heap.size W w') := fun W hW => refOwn_any h W hW
 have HCO : Hid (∀ W, Below w.heap.size w W → Calls Tryz.prog 17 #[.agg xs.toArray] W fun e w' => e = .returned (countV x) ∧ Below W.heap.size W w') := fun W hW => refCount_any h W hnb hW
 have hcl := x.counts_le
 unfold OpC.rightE
 unfold countV at HCO
 obtain ⟨cs, hcs⟩ : ∃ cs : Array Value, cs = xs.toArray := ⟨_, rfl⟩
 have HI19 : Hid ((Tryz.prog.info? 29).map (·.size) = some cs.size) := by unfold Hid; rw [hcs, zO, h.len]; exact isz_29
 rw [← hcs] at HALL HCO ⊢
 obtain ⟨w1, hw1⟩ := xa w cs 29
 have HB1 := Hi (zV hw1)
 have HN1 := Hi (zW hw1)
 generalize x.allE = ae at HALL ⊢
 generalize x.parts = p at HCO hcl ⊢
 generalize x.multis = m at HCO hcl ⊢
 generalize x.depth = d at HCO hcl ⊢
 have hp : p ≤ 1000000000 := by omega
 have hm : m ≤ 1000000000 := by omega
 have hd : d ≤ 1000000000 := by omega
 clear hcl hnb h hcs
 by_cases ho : ae = 0
 rotate_left
 · rw [if_pos ho]
   have hob : (ae != 0) = true := by simpa using ho
   clear ho HCO
   go_enter Tryz.func14, Tryz.ntmps14
   go_wp2_with (first
    | (refine wpList_load_row rfl 29 (.tmp 1) rfl w.heap.size rfl 29 _ _ _ HN1.out zU29 rfl HI19.out ?_)
    | (go_at_call 34
       refine (HALL.out _ HB1.out).mono ?_
       rintro e w3 ⟨rfl, hb⟩
       have HB3 : Hid (Below w.heap.size w w3) := HB1.out.trans (hb.mono HB1.out.size)
       clear hb))
   go_ret
   exact ⟨rfl, HB3.out⟩
 rw [if_neg (by simpa using ho)]
 subst ho
 rcases Nat.lt_or_ge 8 d with h1 | h1
 case' inl => have hr : ((decide ((d : Int) > 8) || decide ((p : Int) > 1024)) || decide ((m : Int) > 1024)) = true := by simp; omega
 case' inr =>
  rcases Nat.lt_or_ge 1024 p with h2 | h2
  case' inl => have hr : ((decide ((d : Int) > 8) || decide ((p : Int) > 1024)) || decide ((m : Int) > 1024)) = true := by simp; omega
  case' inr =>
   rcases Nat.lt_or_ge 1024 m with h3 | h3
   case' inl => have hr : ((decide ((d : Int) > 8) || decide ((p : Int) > 1024)) || decide ((m : Int) > 1024)) = true := by simp; omega
   case' inr => have hr : ((decide ((d : Int) > 8) || decide ((p : Int) > 1024)) || decide ((m : Int) > 1024)) = false := by simp; omega
 all_goals
  rw [hr]
  clear hr
  go_enter Tryz.func14, Tryz.ntmps14
  go_wp2_with (first
   | (refine wpList_load_row rfl 29 (.tmp 1) rfl w.heap.size rfl 29 _ _ _ HN1.out zU29 rfl HI19.out ?_)
   | (go_at_call 34
      refine (HALL.out _ HB1.out).mono ?_
      rintro e w3 ⟨rfl, hb⟩
      have HB3 : Hid (Below w.heap.size w w3) := HB1.out.trans (hb.mono HB1.out.size)
      have HN3 : Hid (Blk w3 w.heap.size 29 cs) := HN1.out.below hb HN1.out.lt
      clear hb)
   | (refine wpList_load_row rfl 29 (.tmp 1) rfl w.heap.size rfl 29 _ _ _ HN3.out zU29 rfl HI19.out ?_)
   | (go_at_call 17
      refine (HCO.out _ HB3.out).mono ?_
      rintro e w4 ⟨rfl, hb⟩
      have HB4 : Hid (Below w.heap.size w w4) := HB3.out.trans (hb.mono HB3.out.size)
      clear hb))
  go_ret
  exact ⟨rfl, HB4.out⟩

def REncoded (w : World) (xid : Int) (x : OpC) (e : Ending) (w' : World) : Prop :=
 Below w.heap.size w w' ∧ ((x.encE ≠ 0 ∧ e = .returned (.tuple #[.slice none 0 0, .int .i64 x.encE])) ∨
  (x.encE = 0 ∧ ∃ v, e = .returned (.tuple #[v, .int .i64 0]) ∧ Rb w' w.heap.size v (encB xid x)))
theorem refEncode_any {w : World} {lo : Option Nat} {x : OpC} {xs : List Value} (xid : Int) (h : At w lo x xs) (hb : x.bulk ≤ 1000000000) :
 Calls Tryz.prog 22 #[.agg (.int .i32 xid :: xs).toArray] w (REncoded w xid x) := by
 have HR : Hid (∀ W, Below w.heap.size w W → Calls Tryz.prog 14 #[.agg xs.toArray] W fun e w' => e = .returned (.int .i64 x.rightE) ∧ Below W.heap.size W w') := fun W hW => refRight_any (h.later hW) (Nat.le_trans x.nodes_bulk hb)
 have hpl := x.putB_le
 have HP : Hid (∀ (W : World) (v : Value) (l : List UInt8), Below w.heap.size w W → Rb W w.heap.size v l → l.length ≤ 100 → Calls Tryz.prog 26 #[v, .agg xs.toArray] W (Putted w.heap.size l x.putB W)) := fun W v l hW hv hl =>
  refOpPut_any h W w.heap.size v l zR hW hv hW.size (by omega)
 have HK : Hid (∀ W, Calls Tryz.prog 12 #[.int .i32 x.f.t] W fun e w' => e = .returned (.int .i64 (kindN x.f.t)) ∧ w' = W) := fun W => refKind_any x.f.t W
 have hx0 := h.c0
 have h19 := h.len
 have HI19 : Hid ((Tryz.prog.info? 29).map (·.size) = some xs.length) := by unfold Hid; rw [h19]; exact isz_29
 obtain ⟨cs, hcs⟩ : ∃ cs : Array Value, cs = (Value.int .i32 xid :: xs).toArray := ⟨_, rfl⟩
 rw [← hcs]
 obtain ⟨w1, hw1⟩ := xa w cs 44
 have hb1 := newB hw1
 have hn1 := newK hw1
 rw [hcs] at hn1
 have HB1 := Hi hb1
 have HN1 := Hi hn1
 have HRW : Hid (∀ W, Blk W w.heap.size 44 (Value.int .i32 xid :: xs).toArray → ∀ j v, xs[j]? = some v → W.cell? ((⟨w.heap.size, 1, none⟩ : Addr).add j) = some v) := fun W hB j v hv => by
  rw [zN, Nat.add_comm]
  exact yC hB (j + 1) (by simpa using hv)
 have HRW1 : Hid (∀ j v, xs[j]? = some v → w1.cell? ((⟨w.heap.size, 1, none⟩ : Addr).add j) = some v) := HRW.out w1 hn1
 have HX0 : Hid ((Value.int .i32 xid :: xs).toArray[1]? = some (.int .i32 x.f.t)) := by unfold Hid; simpa using hx0
 obtain ⟨re, hre⟩ : ∃ z, z = x.rightE := ⟨_, rfl⟩
 obtain ⟨kn, hkn⟩ : ∃ z, z = kindN x.f.t := ⟨_, rfl⟩
 obtain ⟨xt, hxt⟩ : ∃ z, z = x.f.t := ⟨_, rfl⟩
 obtain ⟨pb, hpb⟩ : ∃ z, z = x.putB := ⟨_, rfl⟩
 have hEE : x.encE = if re ≠ 0 then re else if kn = 5 then 110 else 0 := by unfold OpC.encE; rw [← hre, ← hkn]
 have hEB : encB xid x = bInt xid ++ bInt xt ++ pb := by unfold encB; rw [← hxt, ← hpb]
 rw [← hre] at HR
 rw [← hkn, ← hxt] at HK
 rw [← hxt] at HX0
 rw [← hpb] at HP
 unfold REncoded
 rw [hEE, hEB]
 clear hcs h hb hb1 hn1 hre hkn hxt hpb hEE hEB hpl hx0 h19
 by_cases ho : re = 0
 rotate_left
 · rw [if_pos ho]
   have hob : (re != 0) = true := by simpa using ho
   have HO := Hi ho
   clear ho HP HK
   go_enter Tryz.func22, Tryz.ntmps22
   go_wp2_with (first
    | (refine wpList_load_at (by rfl) 29 (.tmp 6) rfl ⟨w.heap.size, 1, none⟩ rfl xs _ HRW1.out zU29 rfl HI19.out ?_)
    | (go_at_call 14
       refine (HR.out _ HB1.out).mono ?_
       rintro e w3 ⟨rfl, hb⟩
       have HB3 := hidT HB1 hb
       clear hb))
   go_ret2
   exact ⟨HB3.out, .inl ⟨HO.out, rfl⟩⟩
 rw [if_neg (by simpa using ho)]
 subst ho
 by_cases hk5 : kn = 5
 · rw [if_pos hk5]
   subst hk5
   go_enter Tryz.func22, Tryz.ntmps22
   go_wp2_with (first
    | (refine wpList_load_at (by rfl) 29 (.tmp 6) rfl ⟨w.heap.size, 1, none⟩ rfl xs _ HRW1.out zU29 rfl HI19.out ?_)
    | (go_at_call 14
       refine (HR.out _ HB1.out).mono ?_
       rintro e w3 ⟨rfl, hb⟩
       have HB3 := hidT HB1 hb
       have d1 := yC (HN1.out.below hb HN1.out.lt) 1 HX0.out
       clear hb)
    | (go_at_call 12
       refine (HK.out _).mono ?_
       rintro e w4 ⟨rfl, he⟩
       obtain rfl := he.symm))
   go_ret2
   exact ⟨HB3.out, .inl ⟨by decide, rfl⟩⟩
 rw [if_neg hk5]
 have hkb : (kn == 5) = false := by simpa using hk5
 clear hk5
 go_enter Tryz.func22, Tryz.ntmps22
 go_wp2_with (first
  | (with_reducible refine wpAt 7 ?_
     refine wpList_load_at (by rfl) 29 (.tmp 6) rfl ⟨w.heap.size, 1, none⟩ rfl xs _ HRW1.out zU29 rfl HI19.out ?_)
  | (go_at_call 14
     refine (HR.out _ HB1.out).mono ?_
     rintro e w3 ⟨rfl, hb⟩
     have HB3 := hidT HB1 hb
     have HN3 := Hi (HN1.out.below hb HN1.out.lt)
     have d0 := yC HN3.out 0 (u := .int .i32 xid) rfl
     have d1 := yC HN3.out 1 HX0.out
     have HZ3 : Hid (w.heap.size ≤ w3.heap.size) := HB3.out.size
     clear hb)
  | (go_at_call 12
     refine (HK.out _).mono ?_
     rintro e w4 ⟨rfl, he⟩
     obtain rfl := he.symm)
  | (go_at_call 41
     refine (refPut4 w.heap.size v4 (bInt xid) (xt % 4294967296) xt w4 (by omega) (by omega) (by omega) HR4.out HB4.out.size (by rw [bInt_len]; omega)).mono ?_
     rintro e w5 ⟨v5, rfl, hr, hb, hk⟩
     have HR5 := Hi hr
     have HB5 := Hi (HB4.out.trans hb)
     have HRW5 := Hi (HRW.out w5 (hk _ _ _ (by decide) HN4.out))
     clear hr hb hk e1)
  | (go_at_call 41
     refine (refPut4 w.heap.size (.slice none 0 0) [] (xid % 4294967296) xid w3 (by omega) (by omega) (by omega) (Rb.nil _ _) HZ3.out (by simp)).mono ?_
     rintro e w4 ⟨v4, rfl, hr, hb, hk⟩
     have HR4 : Hid (Rb w4 w.heap.size v4 (bInt xid)) := hr
     have HB4 := Hi (HB3.out.trans hb)
     have HN4 := Hi (hk _ _ _ (by decide) HN3.out)
     have e1 := yC HN4.out 1 HX0.out
     clear hr hb hk d0 d1)
  | (with_reducible refine wpAt 31 ?_
     refine wpList_load_at (by rfl) 29 (.tmp 30) rfl ⟨w.heap.size, 1, none⟩ rfl xs _ HRW5.out zU29 rfl HI19.out ?_)
  | (go_at_call 26
     refine (HP.out w5 v5 _ HB5.out HR5.out (by simp only [zG, bInt_len]; omega)).mono ?_
     rintro e w6 ⟨v6, rfl, hr, hb, hk⟩
     have HR6 := Hi hr
     have HB6 := Hi (HB5.out.trans hb)
     clear hr hb hk))
 go_ret2
 exact ⟨HB6.out, .inr ⟨trivial, _, rfl, HR6.out⟩⟩

section
variable {P : Program} {ops : Array Oper} {Q : Exit → Act → World → Prop}
def Closed (ops : Array Oper) (listed : Array Bool) : Prop := ∀ j o, listed.getD j false = true → ops[j]? = some o → ∀ e ∈ o.after.toList, Region.binds .any e = true → listed.getD e.on false = true
theorem closed_set {listed : Array Bool} (hcl : Closed ops listed) {i : Nat} {oi : Oper} (ho : ops[i]? = some oi) (hil : i < listed.size) (hd : ∀ e ∈ oi.after.toList, Region.binds .any e = true → listed.getD e.on false = true) : Closed ops (listed.setIfInBounds i true) := by
 have hoff : ∀ j, j ≠ i → (listed.setIfInBounds i true).getD j false = listed.getD j false := fun j hij => by
  rw [zP, Array.getElem?_setIfInBounds, if_neg (Ne.symm hij), zP]
 intro j o hj hoj e he hbd
 have h1 : listed.getD e.on false = true := by
  by_cases hji : j = i
  · subst hji
    rw [ho] at hoj
    injection hoj with hoj
    subst hoj
    exact hd e he hbd
  · rw [hoff j hji] at hj
    exact hcl j o hj hoj e he hbd
 by_cases hei : e.on = i
 · rw [hei, zP, Array.getElem?_setIfInBounds, if_pos rfl, if_pos hil]
   rfl
 · rw [hoff _ hei]
   exact h1
def lastU (ops : Array Oper) (n : Nat) : Bool := decide (ops.size = n + 1) && (dstAt ops n).isNone && (List.range n).all fun j => waitsB ops j ops.size n
theorem wpAny_invU {n : Nat} {oL : Oper} {F : Nat → Value → World → Prop} {a0 : Act} {w0 : World} (hb : backB ops = true) (hd : dstsB ops = true) (hs : slotsB ops a0.tmps.size = true) (hl : lastU ops n = true) (hoL : ops[n]? = some oL)
 (hmono : ∀ i v w w', F i v w → Below w.heap.size w w' → F i v w') (hstep : ∀ i o, i < n → ops[i]? = some o → StepOk P ops Q F a0 w0 i o)
 (hend : ∀ a w, Below w0.heap.size w0 w → a.defers = a0.defers → a.tmps.size = a0.tmps.size → (∀ k, (∀ i, dstAt ops i ≠ some k) → a.tmps[k]? = a0.tmps[k]?) → (∀ i k, dstAt ops i = some k → ∃ v, a.tmps[k]? = some v ∧ F i v w) → StepL P ops Q oL a w) :
 ∀ fuel listed a w, RInv ops F a0 w0 listed a w → Closed ops listed → listed.getD n true = false → listed.toList.count false = fuel → wpAny P .any ops Q fuel listed a w := by
 unfold lastU at hl
 rw [Bool.and_eq_true, Bool.and_eq_true, List.all_eq_true] at hl
 obtain ⟨⟨hsz, hdn⟩, hwait⟩ := hl
 have hsz : ops.size = n + 1 := by simpa using hsz
 intro fuel
 induction fuel with
 | zero =>
   intro listed a w h hcl hn hc
   exfalso
   have hnl : n < listed.size := by rw [h.size, hsz]; omega
   have := count_none listed.toList hc n (by rw [Array.length_toList]; exact hnl)
   rw [Array.getElem?_toList] at this
   rw [zP, this] at hn
   simp at hn
 | succ fuel ih =>
   intro listed a w h hcl hn hc
   refine ⟨fun hr => ?_, fun i hi => ?_⟩
   · exfalso
     have := ready_nil hb h.size hr n (by omega)
     rw [hn] at this
     cases this
   have hi2 : i < ops.size ∧ listed.getD i true = false ∧ ((ops[i]?).map (·.after.all fun e => !Region.binds .any e || listed.getD e.on false)).getD false = true := by
    unfold Region.ready at hi
    rw [List.mem_filter, Bool.and_eq_true] at hi
    exact ⟨List.mem_range.1 hi.1, by simpa using hi.2.1, hi.2.2⟩
   obtain ⟨g1, g2, g3⟩ := hi2
   have hil : i < listed.size := by rw [h.size]; exact g1
   have ho : ops[i]? = some ops[i] := Array.getElem?_eq_getElem g1
   rw [ho, Option.map_some, Option.getD_some, zQ] at g3
   have hf : listed.toList[i]? = some false := by
    rw [Array.getElem?_toList, Array.getElem?_eq_getElem hil]
    rw [zP, Array.getElem?_eq_getElem hil] at g2
    simpa using g2
   have hcnt := count_set_true listed.toList i hf
   by_cases hin : i = n
   · subst hin
     have hall : ∀ j, j < i → listed.getD j false = true := fun j hj => by
      have hw := hwait j (List.mem_range.2 hj)
      rw [hsz, waitsB, Bool.or_eq_true, beq_iff_eq] at hw
      rcases hw with hw | hw
      · omega
      rw [ho] at hw
      simp only [Option.map_some, Option.getD_some, List.any_eq_true, Bool.and_eq_true] at hw
      obtain ⟨e, he, hbd, hwe⟩ := hw
      have h1 := g3 e (by simpa using he)
      rw [hbd] at h1
      rcases hj2 : listed.getD j false with _ | _
      · rw [waits_not hcl hj2 _ _ hwe] at h1
        simp at h1
      · rfl
     obtain rfl : ops[i] = oL := by rw [ho] at hoL; injection hoL
     refine wpOp_step ho fun K' hK => ?_
     have hq : StepL P ops Q ops[i] a w := hend a w h.past h.defs h.len h.old fun j k hk => by
      have hj := dstAt_lt hk
      rcases (by omega : j < i ∨ j = i) with hji | rfl
      · exact h.done j (hall j hji) k hk
      · rw [hk] at hdn
        cases hdn
     have hz : ∀ a' w', Q .normal a' w' → wpAny P .any ops Q fuel (listed.setIfInBounds i true) a' w' := fun a' w' hq' => by
      have h0 : fuel = 0 := by
       have hall2 : ∀ j, j < listed.toList.length → (listed.toList.set i true)[j]? = some true := fun j hj => by
        rw [Array.length_toList, h.size, hsz] at hj
        rw [List.getElem?_set]
        split
        · rw [if_pos (by rw [Array.length_toList]; exact hil)]
        · rename_i hne
          have := hall j (by omega)
          have hjl : j < listed.size := by rw [h.size, hsz]; omega
          rw [zP, Array.getElem?_eq_getElem hjl] at this
          rw [Array.getElem?_toList, Array.getElem?_eq_getElem hjl]
          simpa using this
       have hc0 : (listed.toList.set i true).count false = 0 := by
        rw [List.count_eq_zero]
        intro hm
        obtain ⟨j, hj⟩ := List.mem_iff_getElem?.1 hm
        have hjl : j < listed.toList.length := by
         have := (List.getElem?_eq_some_iff.1 hj).1
         simpa using this
        rw [hall2 j hjl] at hj
        cases hj
       omega
      subst h0
      refine ⟨?_, hq'⟩
      unfold Region.ready
      rw [List.filter_eq_nil_iff]
      intro j hj
      have hj' := List.mem_range.1 hj
      have : (listed.setIfInBounds i true).getD j true = true := by
       rw [zP, Array.getElem?_setIfInBounds]
       split
       · rfl
       · have := hall j (by omega)
         have hjl : j < listed.size := by rw [h.size]; exact hj'
         rw [zP, Array.getElem?_eq_getElem hjl] at this
         rw [Array.getElem?_eq_getElem hjl]
         simpa using this
      rw [this]
      simp
     exact hq K' fun a' w' hq' => hK a' w' (hz a' w' hq')
   · refine wpOp_step ho fun K' hK => ?_
     refine hstep i _ (by omega) ho a w h.past h.old (fun e he hbd k hk => ?_) K' fun v w' hv hbl => hK _ _ (ih _ _ _ ?_ (closed_set hcl ho hil fun e he hbd => by have h4 := g3 e (by simpa using he); rw [hbd] at h4; simpa using h4) ?_ ?_)
     · have h4 := g3 e (by simpa using he)
       rw [hbd] at h4
       exact h.done e.on (by simpa using h4) k hk
     · have hdi : dstAt ops i = ops[i].dst := by unfold dstAt; rw [ho]; rfl
       refine ⟨by simp [h.size], h.past.trans (hbl.mono h.past.size), by rw [put_defs]; exact h.defs, by rw [put_len]; exact h.len, fun k hk => ?_, fun j hj k hk => ?_⟩
       · rw [put_tmps _ _ _ _ (by rw [← hdi]; exact hk i)]
         exact h.old k hk
       · by_cases hij : j = i
         · subst hij
           rw [hdi] at hk
           rw [hk]
           refine ⟨v, put_tmps_same _ _ _ ?_, hv⟩
           rw [h.len]
           unfold slotsB at hs
           rw [List.all_eq_true] at hs
           have := hs j (List.mem_range.2 g1)
           rw [hdi, hk] at this
           simpa using this
         · have hj' : listed.getD j false = true := by
            rw [zP, Array.getElem?_setIfInBounds, if_neg (Ne.symm hij)] at hj
            rw [zP]
            exact hj
           obtain ⟨u, hu, hF⟩ := h.done j hj' k hk
           refine ⟨u, ?_, hmono j u w w' hF hbl⟩
           rw [put_tmps _ _ _ _ (fun e => hij (dsts_one hd hk (by rw [hdi]; exact e)))]
           exact hu
     · rw [zP, Array.getElem?_setIfInBounds, if_neg hin]
       rw [zP] at hn
       exact hn
     · rw [Array.toList_setIfInBounds]
       omega
theorem wp_region_last {id : Nat} {a0 : Act} {w0 : World} {l : List Oper} (n : Nat) {oL : Oper} (hoL : l[n]? = some oL) (F : List (Value ⊕ (Value → World → Prop))) (hl : (l.take n).length = F.length) (hm : P.follows .mixedOrders = true) (hb : backB l.toArray = true) (hd : dstsB l.toArray = true) (hs : slotsB l.toArray a0.tmps.size = true) (hla : lastU l.toArray n = true)
 (hmono : ∀ p, Sum.inr p ∈ F → ∀ v w w', p v w → Below w.heap.size w w' → p v w') (hstep : StepsOk P l.toArray Q (FL F) a0 w0 0 (l.take n))
 (hend : ∀ w, Below w0.heap.size w0 w → Fin (l.take n) F a0 w (fun a w => StepL P l.toArray Q oL a w)) : (Code.region id l.toArray true).wp P Q a0 w0 := by
 refine wp_region_any hm ?_
 have hla' := hla
 unfold lastU at hla'
 rw [Bool.and_eq_true, Bool.and_eq_true] at hla'
 obtain ⟨⟨hsz, hdn⟩, _⟩ := hla'
 have hsz : l.length = n + 1 := by simpa using hsz
 refine wpAny_invU (n := n) (oL := oL) (a0 := a0) (w0 := w0) hb hd hs hla (by simpa using hoL) (FL.mono hmono) (fun i o hi h => stepsN_get hstep i o hi (by simpa using h)) ?_ _ _ _ _ ⟨by simp, zT.drew, rfl, rfl, fun _ _ => rfl, fun i hi => ?_⟩ (fun i o hi => ?_) ?_ (by simp)
 · intro a w hbl h1 h2 h3 h4
   refine fin_of (K := fun a w => StepL P l.toArray Q oL a w) (l.take n) F a0 a hl h1 h2 (fun k hk => h3 k fun i hi => ?_) (fun i k hk => h4 i k (dstAt_take hk)) (hend w hbl)
   have hil := dstAt_lt hi
   have hil' : i < n + 1 := by simpa [hsz] using hil
   rcases (by omega : i < n ∨ i = n) with hin | rfl
   · refine hk i ?_
     unfold dstAt at hi ⊢
     simp only [List.getElem?_toArray, List.getElem?_take, if_pos hin] at hi ⊢
     exact hi
   · rw [hi] at hdn
     cases hdn
 · exfalso
   rw [zP, Array.getElem?_replicate] at hi
   split at hi
   · cases hi
   · cases hi
 · exfalso
   rw [zP, Array.getElem?_replicate] at hi
   split at hi
   · cases hi
   · cases hi
 · rw [zP, Array.getElem?_replicate, if_pos (by rw [zO]; omega)]
   rfl
end

theorem op_callG {P : Program} {ops : Array Oper} {Q : Exit → Act → World → Prop} {o : Oper} {a : Act} {w : World} {K : Act → World → Prop} {R : Value → World → Prop} (hw : Region.wanted o (yielded ops a.tmps) = true) (f : FuncId) (xs : Array Operand) (ats : Array TypeId) (ho : o.op = .call { callee := .value (.func f), args := xs, argTypes := ats }) (args : Array Value) (hx0 : xs.toList.map a.eval = args.toList)
 {fn : Func} (hf : P.funcs[f]? = some fn) (hn : (fn.name == "runtime.NumGoroutine") = false) (hb : fn.body.isNone = false) (hc : Calls P f args w fun e w' => ∃ v, e = .returned v ∧ R v w' ∧ Below w.heap.size w w')
 (hK : ∀ v w', R v w' → Below w.heap.size w w' → K (a.put o.dst v) w') : if Region.wanted o (yielded ops a.tmps) = true then Oper.wp P o a w K Q else K (a.put o.dst undef) w :=
 step_call hw f xs ats ho args hx0 hf hn hb hc (fun e w' ⟨v, h1, h2, h3⟩ => ⟨v, h1, hK v w' h2 h3⟩)
theorem step_alloc {P : Program} {ops : Array Oper} {Q : Exit → Act → World → Prop} {o : Oper} {a : Act} {w : World} {K : Act → World → Prop} {E : Prop} (hw : Region.wanted o (yielded ops a.tmps) = true) (t : TypeId) (ho : o.op = .alloc t) {n : Nat} (hz : ((P.info? t).bind (·.zero)).map (·.cells.size) = some n)
 (h : ∀ old : Array Value, old.size = n → K (a.put o.dst (.pointer (some ⟨w.heap.size, 0, none⟩))) (w.alloc (.cells old t))) : if Region.wanted o (yielded ops a.tmps) = true then Oper.wp P o a w K Q else E := by
 rw [if_pos hw]
 cases hq : (P.info? t).bind (·.zero) with
 | none => rw [hq] at hz; simp at hz
 | some z =>
   rw [hq] at hz
   have hs : z.cells.size = n := by simpa using hz
   unfold Oper.wp execOp
   simp only [ho, Sem.run_bind, run_alloc_zero w t hq, Result.andThen_ok]
   exact h z.cells hs
theorem r_bld {P : Program} {o : Oper} {ρ : Operand → Value} {w : World} (t : TypeId) (parts : Array (Nat × Operand)) (ho : o.op = .build t parts) {v : Value} (hr : (Instr.build t (parts.map fun (i, x) => (i, ρ x))).run P w = .ok v w) : (execOp ρ o).run P w = .ok (.value v) w := by
 unfold execOp
 simp only [ho, Sem.run_bind, hr, Result.andThen_ok]
 rfl
theorem list19 {α : Type} {c : List α} (hc : c.length = 19) : ∃ c0 c1 c2 c3 c4 c5 c6 c7 c8 c9 c10 c11 c12 c13 c14 c15 c16 c17 c18, c = [c0, c1, c2, c3, c4, c5, c6, c7, c8, c9, c10, c11, c12, c13, c14, c15, c16, c17, c18] := by
 match c, hc with
 | [c0, c1, c2, c3, c4, c5, c6, c7, c8, c9, c10, c11, c12, c13, c14, c15, c16, c17, c18], _ => exact ⟨_, _, _, _, _, _, _, _, _, _, _, _, _, _, _, _, _, _, _, rfl⟩
theorem run_build_req (z : Int) (c : List Value) (hc : c.length = 19) (w : World) : (Instr.build 44 #[(0, .int .i32 z), (1, .agg c.toArray)]).run Tryz.prog w = .ok (.agg (Value.int .i32 z :: c).toArray) w := by
 obtain ⟨c0, c1, c2, c3, c4, c5, c6, c7, c8, c9, c10, c11, c12, c13, c14, c15, c16, c17, c18, rfl⟩ := list19 hc
 clear hc
 kernel_rfl
theorem At.oth {w w' : World} {g : Nat} {c0 : Array Value} {x : OpC} {cs : List Value} {lo : Option Nat} (h : At w lo x cs) : ∀ {b : Nat}, lo = some b → Blk w g 44 c0 → w.grownBy w' (some g) → At w' (some b) x cs := by
 induction h with
 | mk f d a k0 k1 k2 k3 k4 i s Q ok hd ha hk0 hk1 hk2 hk3 hk4 hi hs _ ih =>
   intro b hlo hB hg
   subst hlo
   exact .mk f d a k0 k1 k2 k3 k4 i s Q ok (hd.other hg hB (by decide)) (ha.other hg hB (by decide)) (hk0.other hg hB (by decide)) (hk1.other hg hB (by decide)) (hk2.other hg hB (by decide)) (hk3.other hg hB (by decide)) (hk4.other hg hB (by decide)) (hi.other hg hB (by decide)) (hs.other hg hB (by decide)) fun q hq => ih q hq rfl hB hg
theorem zer_reqE : ((Tryz.prog.info? 44).bind (·.zero)).map (·.cells.size) = some 20 := by kernel_rfl
theorem row_tailE {w : World} {g : Nat} {t : TypeId} {z : Value} {cs : List Value} (h : Blk w g t (z :: cs).toArray) : ∀ j v, cs[j]? = some v → w.cell? ((⟨g, 1, none⟩ : Addr).add j) = some v := fun j v hv => by
 rw [zN, Nat.add_comm]
 exact yC h (j + 1) (by simpa using hv)
def PClone (w0 : World) (x : OpC) (v : Value) (w : World) : Prop := ∃ c : List Value, v = .agg c.toArray ∧ At w (some w0.heap.size) x c
theorem PClone.later {w0 w w' : World} {x : OpC} {v : Value} (h : PClone w0 x v w) (hb : Below w.heap.size w w') : PClone w0 x v w' := by
 obtain ⟨c, h1, h2⟩ := h
 exact ⟨c, h1, h2.later hb⟩
def PReq (w0 : World) (z : Int) (x : OpC) (v : Value) (w : World) : Prop := ∃ c : List Value, v = .agg (Value.int .i32 z :: c).toArray ∧ At w (some w0.heap.size) x c
theorem PReq.later {w0 w w' : World} {z : Int} {x : OpC} {v : Value} (h : PReq w0 z x v w) (hb : Below w.heap.size w w') : PReq w0 z x v w' := by
 obtain ⟨c, h1, h2⟩ := h
 exact ⟨c, h1, h2.later hb⟩
def PNew (w0 : World) (v : Value) (w : World) : Prop := ∃ g old, v = .pointer (some ⟨g, 0, none⟩) ∧ w0.heap.size ≤ g ∧ Blk w g 44 old ∧ old.size = 20
theorem PNew.later {w0 w w' : World} {v : Value} (h : PNew w0 v w) (hb : Below w.heap.size w w') : PNew w0 v w' := by
 obtain ⟨g, old, h1, h2, h3, h4⟩ := h
 exact ⟨g, old, h1, h2, h3.below hb h3.lt, h4⟩
structure PBs (l : List UInt8) (A : Option Addr) (n c : Nat) (w : World) : Prop where
 reads : Reads w w.heap.size 1 A n (bcells l)
 le : n ≤ c
 nil : A = none → c = 0
 len : l.length = n
theorem PBs.nil_ {w : World} : PBs [] none 0 0 w := ⟨Reads.none_, Nat.le_refl _, fun _ => rfl, rfl⟩
theorem PBs.later {w w' : World} {l : List UInt8} {A : Option Addr} {n c : Nat} (h : PBs l A n c w) (hb : Below w.heap.size w w') : PBs l A n c w' := ⟨(h.reads.below hb).more hb.size, h.le, h.nil, h.len⟩
def PB (l : List UInt8) (v : Value) (w : World) : Prop := ∃ A n c, v = .slice A n c ∧ PBs l A n c w
theorem PB.later {w w' : World} {l : List UInt8} {v : Value} (h : PB l v w) (hb : Below w.heap.size w w') : PB l v w' := by
 obtain ⟨A, n, c, h1, h2⟩ := h
 exact ⟨A, n, c, h1, (h2.reads.below hb).more hb.size, h2.le, h2.nil, h2.len⟩
theorem PBs.conv {l : List UInt8} {A : Option Addr} {n c : Nat} {w : World} {s : ByteArray} (h : PBs l A n c w) (hs : s = ⟨l.toArray⟩) : (convert 22 9 (.slice A n c)).run Tryz.prog w = .ok (.string s) w := by
 subst hs
 exact run_string_of_bytes (P := Tryz.prog) zU22 zU5 (c := c) h.reads 9 zU9
theorem PBs.own {l : List UInt8} {A : Option Addr} {n c b : Nat} {w : World} (h : w.ownsRow b 5 1 (.slice A n c) n (bcells l)) (hl : l.length = n) : PBs l A n c w := ⟨Reads.of_own h, own_capO h, fun e => (own_nil h e).2, hl⟩
theorem PB.rb {l : List UInt8} {b : Nat} {w : World} {v : Value} (h : Rb w b v l) : PB l v w := by
 obtain ⟨A, c, rfl⟩ := slice_form h
 exact ⟨A, l.length, c, rfl, PBs.own h rfl⟩

theorem encodesLaw_walk {w : World} {z : Int} {x : OpC} {xs : List Value} (h : At w none x xs) (hbulk : x.bulk ≤ 1000000000) (E : Env w) :
 Calls Tryz.prog 5 #[.agg (Value.int .i32 z :: xs).toArray] w fun e w' => e = .returned (.bool true) ∧ Below w.heap.size w w' := by
 have HAL : Hid (∀ W, Below w.heap.size w W → Calls Tryz.prog 9 #[] W fun e w' => e = .returned (.bool true) ∧ Below W.heap.size W w') := fun W hW => alive_any W (E.below hW)
 have HGX : Hid (∀ W, Below w.heap.size w W → Calls Tryz.prog 8 #[.agg xs.toArray] W fun e w' => e = .returned (.bool (decide (3000 < x.cnt 0))) ∧ Below W.heap.size W w') := fun W hW => great_any h W hW
 have HXI : Hid ((Tryz.prog.info? 29).map (·.size) = some xs.length) := by unfold Hid; rw [h.len]; exact isz_29
 have HXL := Hi h.len
 have hgood := h.good
 have hwf : (Lit.int .i32 x.f.t).wf = true := by
  have hg := hgood
  obtain ⟨f, S⟩ := x
  rw [OpC.good] at hg
  exact hg.1.t
 have hpl := x.putB_le
 obtain ⟨w1, hw1⟩ : ∃ v, w.alloc (.cells (Value.int .i32 z :: xs).toArray 44) = v := ⟨_, rfl⟩
 have hb1 := newB hw1
 have hk1 := newK hw1
 have HB1 := Hi hb1
 have HQ : Hid (∀ W, Below w1.heap.size w1 W → Blk W w.heap.size 44 (Value.int .i32 z :: xs).toArray) := fun W hW => hk1.below hW hk1.lt
 have HT : Hid (∀ W, Below w.heap.size w W → At W none x xs) := fun W hW => h.later hW
 have HE : Hid (∀ W, Below w.heap.size w W → Env W) := fun W hW => E.below hW
 by_cases hg : 3000 < x.cnt 0
 · rw [decide_eq_true hg] at HGX
   clear h E hgood hwf hb1 hk1 hpl
   go_enter Tryz.func5, Tryz.ntmps5
   go_wp2_with (first
   | (with_reducible refine wpAt 10 ?_
      refine wpList_load_at (by rfl) 29 (.tmp 9) rfl ⟨w.heap.size, 1, none⟩ rfl xs _ (row_tailE (HQ.out _ zT)) zU29 rfl HXI.out ?_)
   | (go_at_call 8
      refine (HGX.out _ HB1.out).mono ?_
      rintro e w3 ⟨rfl, hb⟩
      have HB3 := hidT HB1 hb
      have HB13 := Hi hb
      clear hb)
   | (go_at_call 9
      refine (HAL.out _ HB3.out).mono ?_
      rintro e w4 ⟨rfl, hb⟩
      have HB4 := hidT HB3 hb
      clear hb))
   go_ret
   exact ⟨rfl, HB4.out⟩
 rw [decide_eq_false hg] at HGX
 have HCR : Hid (∀ W, Below w.heap.size w W → Calls Tryz.prog 10 #[.agg xs.toArray] W fun e w' => ∃ v, e = .returned v ∧ PClone W x v w' ∧ Below W.heap.size W w') := fun W hW => (refClone_any h W hW).mono fun e w' ⟨c, h1, h2, h3⟩ => ⟨_, h1, ⟨c, rfl, h2⟩, h3⟩
 obtain ⟨ee, hee⟩ : ∃ n, n = x.encE := ⟨_, rfl⟩
 obtain ⟨eb, heb⟩ : ∃ l, l = if x.encE = 0 then encB z x else [] := ⟨_, rfl⟩
 have HENC : Hid (∀ W c, At W none x c → Below w.heap.size w W → Calls Tryz.prog 21 #[.agg (Value.int .i32 z :: c).toArray] W fun e w' => Below W.heap.size W w' ∧ ∃ A n c', e = .returned (.tuple #[.slice A n c', .int .i64 ee]) ∧ PBs eb A n c' w') := fun W c hc hW => (encode_any z hc (E.below hW) hbulk).mono fun e w' ⟨h1, h2⟩ => by
  refine ⟨h1, ?_⟩
  rw [hee, heb]
  rcases h2 with ⟨h2, h3⟩ | ⟨h2, base, A, c', _, h3, h4⟩
  · rw [if_neg h2]
    exact ⟨none, 0, 0, h3, PBs.nil_⟩
  · rw [if_pos h2, h2]
    exact ⟨A, _, c', h3, PBs.own h4 rfl⟩
 have HRE : Hid (∀ W, Below w.heap.size w W → Calls Tryz.prog 22 #[.agg (Value.int .i32 z :: xs).toArray] W fun e w' => Below W.heap.size W w' ∧ ∃ A n c', e = .returned (.tuple #[.slice A n c', .int .i64 ee]) ∧ PBs eb A n c' w') := fun W hW => (refEncode_any z (h.later hW) hbulk).mono fun e w' ⟨h1, h2⟩ => by
  refine ⟨h1, ?_⟩
  rw [hee, heb]
  rcases h2 with ⟨h2, h3⟩ | ⟨h2, v, h3, h4⟩
  · rw [if_neg h2]
    exact ⟨none, 0, 0, h3, PBs.nil_⟩
  · rw [if_pos h2, h2]
    obtain ⟨A, n, c', rfl, h5⟩ := PB.rb h4
    exact ⟨A, n, c', h3, h5⟩
 have HSAME : Hid (∀ W c, At W none x c → Below w.heap.size w W → Calls Tryz.prog 15 #[.agg c.toArray, .agg xs.toArray] W fun e w' => e = .returned (.bool true) ∧ Below W.heap.size W w') := fun W c hc hW => by
  obtain ⟨b', h3, h4⟩ := same_any hc (h.later hW)
  obtain rfl : b' = true := h3.2 rfl
  exact h4 W zT
 obtain ⟨pb, hpb⟩ : ∃ l, l = x.putB := ⟨_, rfl⟩
 have hpn : pb.length ≤ 5000000000 := by rw [hpb]; omega
 have HGETS : Hid (∀ W A n c, PBs pb A n c W → Below w.heap.size w W → Calls Tryz.prog 24 #[.slice A n c, .agg xs.toArray, .int .i64 ee] W fun e w' => e = .returned (.bool true) ∧ Below W.heap.size W w') := fun W A n c hc hW => by
  rw [hee]
  exact gets_any (h.later hW) hgood hwf A n c (by rw [← hpb]; exact hc.len) (by rw [← hpb]; exact hc.reads) hc.le (by have := hc.len; omega) hc.nil (E.below hW)
 have HPUT : Hid (∀ W, Below w.heap.size w W → Calls Tryz.prog 26 #[.slice none 0 0, .agg xs.toArray] W fun e w' => ∃ v, e = .returned v ∧ PB pb v w' ∧ Below W.heap.size W w') := fun W hW => by
  refine (refOpPut_any (h.later hW) W W.heap.size (.slice none 0 0) [] zR zT (Rb.nil _ _) zR (by simp only [zK]; omega)).mono ?_
  rintro e w' ⟨v, rfl, hr, hb, _⟩
  rw [List.nil_append, ← hpb] at hr
  exact ⟨v, rfl, PB.rb hr, hb⟩
 have HOP : Hid (∀ (W0 : World) c, At W0 none x c → ∀ (W : World) (base g : Nat) (v : Value), W0.heap.size ≤ base → base ≤ g → Below W0.heap.size W0 W → Wr W base g v [] → base ≤ W.heap.size → Calls Tryz.prog 23 #[.pointer (some ⟨g, 0, none⟩), .agg c.toArray] W fun e w' => e = .returned (.tuple #[]) ∧ ∃ v', Wrote base g v v' [] pb W w') := fun W0 c hc W base g v h1 h2 h3 h4 h5 => by
  rw [hpb]
  exact opPut_any hc W base g v [] h1 h2 h3 h4 h5 (by simp only [zK]; omega)
 have HEE := Hi hee
 clear h E hgood hwf hb1 hk1 hpl hbulk hpb hg hee heb
 go_enter Tryz.func5, Tryz.ntmps5
 go_wp2_with (first
  | (with_reducible refine wpAt 10 ?_
     refine wpList_load_at (by rfl) 29 (.tmp 9) rfl ⟨w.heap.size, 1, none⟩ rfl xs _ (row_tailE (HQ.out _ zT)) zU29 rfl HXI.out ?_)
  | (go_at_call 8
     refine (HGX.out _ HB1.out).mono ?_
     rintro e w3 ⟨rfl, hb⟩
     have HB3 := hidT HB1 hb
     have HB13 := Hi hb
     clear hb))
 have HCL : Hid (∀ W, Below w3.heap.size w3 W → Calls Tryz.prog 10 #[.agg xs.toArray] W fun e w' => ∃ v, e = .returned v ∧ PClone w3 x v w' ∧ Below W.heap.size W w') := fun W hW => (HCR.out W (HB3.out.trans (hW.mono HB3.out.size))).mono fun e w' ⟨v, h1, ⟨c, h2, h3⟩, h4⟩ => ⟨v, h1, ⟨c, h2, h3.lo rfl hW.size⟩, h4⟩
 have HQ3 : Hid (∀ W, Below w3.heap.size w3 W → Blk W w.heap.size 44 (Value.int .i32 z :: xs).toArray) := fun W hW => HQ.out W (HB13.out.trans (hW.mono HB13.out.size))
 refine wp_region_last (w0 := w3) 7 rfl (.inl (.pointer (some ⟨w.heap.size, 0, none⟩)) ::
  .inl (.int .i32 z) ::
  .inl (.pointer (some ⟨w.heap.size, 1, none⟩)) ::
  .inl (.agg xs.toArray) ::
  .inr (PClone w3 x) ::
  .inr (PReq w3 z x) ::
  .inr (PNew w3) :: []) rfl (by kernel_rfl) (by kernel_rfl) (by kernel_rfl) (by kernel_rfl) (by kernel_rfl) (by
  intro p hp
  simp only [zH, reduceCtorEq, Sum.inr.injEq, zI, or_false, false_or] at hp
  rcases hp with rfl | rfl | rfl <;> (rintro v W W' h hb; exact h.later hb)) ⟨fun ac W hb o q K hK => op_u (u := .pointer (some ⟨w.heap.size, 0, none⟩)) rfl (r_field 44 _ 0 rfl (yA (hO o 1)) zU44 rfl (n := 0) isz_21 rfl) (kR hK),
  fun ac W hb o q K hK => op_u (u := .int .i32 z) rfl (r_load 21 _ rfl (yA (dD q 0 13)) (yC (HQ3.out _ hb) 0 rfl) zU21 rfl) (kR hK),
  fun ac W hb o q K hK => op_u (u := .pointer (some ⟨w.heap.size, 1, none⟩)) rfl (r_field 44 _ 1 rfl (yA (hO o 1)) zU44 rfl (n := 18) isz_29 rfl) (kR hK),
  fun ac W hb o q K hK => op_u (u := .agg xs.toArray) rfl (r_load_row 29 _ rfl (yA (dD q 2 15)) xs (row_tailE (HQ3.out _ hb)) zU29 rfl HXI.out) (kR hK),
  fun ac W hb o q K hK => op_callG (want_free rfl) 10 _ _ rfl (#[.agg xs.toArray]) (by simp [yA (dD q 3 16)]) Tryz.func10 (by kernel_rfl) (by kernel_rfl) ((HCL.out W hb)) (fun v w' hv hbl => hK _ _ hv hbl),
  fun ac W hb hold hdep K hK => by
   obtain ⟨v17, e17, h17⟩ : ∃ v, ac.tmps[17]? = some v ∧ (PClone w3 x) v W := hdep ⟨4, .data⟩ (by simp) rfl 17 rfl
   obtain ⟨c, rfl, h17⟩ := h17
   exact op_u (u := .agg (Value.int .i32 z :: c).toArray) rfl (r_bld 44 #[(0, .tmp 14), (1, .tmp 17)] rfl (by simp only [List.map_toArray, List.map_cons, List.map_nil, yA (dD hdep 1 14), yA e17]; exact run_build_req z c h17.len W)) (hK _ _ ⟨c, rfl, h17⟩ zT),
  fun ac W hb o q K hK => step_alloc (want_free rfl) 44 rfl zer_reqE fun old hold' => hK _ _ ⟨W.heap.size, old, rfl, hb.size, Blk.new _ _ _, hold'⟩ (zT.alloc zR _), trivial⟩ ?_
 intro w4 hb4
 simp only [Fin, List.take_succ_cons, List.take_zero, Act.put, zD, zA, zB]
 rintro v17 - v18 ⟨cc, rfl, hcc⟩ v3 ⟨g3, old, rfl, hg3, hold3, hsz3⟩
 have hcl := hcc.len
 have hone := hcc.one
 refine stepL_store_mid rfl 44 (.tmp 3) (.tmp 18) rfl g3 0 (.agg (Value.int .i32 z :: cc).toArray) rfl rfl hold3 (news := Value.int .i32 z :: cc) rfl (by rw [zM, hcl]; exact req_size) (by rw [zM, hcl, hsz3]; omega) (fun v hv => by
  rcases zH.1 hv with rfl | hv
  · rfl
  · rw [zQ] at hone
    exact hone v (by simpa using hv)) ?_
 intro w5 cn hBn hxn hgn hzn
 have hcn : cn = (Value.int .i32 z :: cc).toArray := by
  apply Array.toList_inj.1
  rw [hxn, List.take_zero, List.nil_append, List.drop_eq_nil_of_le (by rw [zM, hcl, Array.length_toList, hsz3]; omega), List.append_nil]
 subst hcn
 have HOWN5 := Hi hBn
 have HAT5 : Hid (At w5 none x cc) := (hcc.oth rfl hold3 hgn).any
 have hb35 : Below w3.heap.size w3 w5 := hb4.grown hgn hb4.size (fun k hk => by injection hk with hk; omega)
 have HB5 : Hid (Below w.heap.size w w5) := HB3.out.trans (hb35.mono HB3.out.size)
 have HB15 : Hid (Below w1.heap.size w1 w5) := HB13.out.trans (hb35.mono HB13.out.size)
 have HCI : Hid ((Tryz.prog.info? 29).map (·.size) = some cc.length) := by unfold Hid; rw [hcl]; exact isz_29
 have HRI : Hid ((Tryz.prog.info? 44).map (·.size) = some (Value.int .i32 z :: cc).toArray.size) := by unfold Hid; rw [zO, zM, hcl]; exact req_size
 have HQI : Hid ((Tryz.prog.info? 44).map (·.size) = some (Value.int .i32 z :: xs).toArray.size) := by have := HXL.out; unfold Hid; rw [zO, zM, this]; exact req_size
 have hg5 : g3 < w5.heap.size := hBn.lt
 have HG5 := Hi hg5
 clear hcc hold3 hBn hxn hgn hzn hb4 hb35 hcl hone hsz3 hg3 HCL HQ3
 go_wp2_with (first
  | (with_reducible refine wpAt 20 ?_
     refine wpList_load_row rfl 44 (.tmp 3) rfl g3 rfl 44 _ _ _ HOWN5.out zU44 rfl HRI.out ?_)
  | (go_at_call 21
     refine (HENC.out _ cc HAT5.out HB5.out).mono ?_
     rintro e w6 ⟨hb, bA, bn, bc, rfl, hp⟩
     have HB6 := hidT HB5 hb
     have HB16 := hidT HB15 hb
     have HP6 := Hi hp
     have HOWN6 := Hi (HOWN5.out.below hb HOWN5.out.lt)
     have HAT6 := Hi (HAT5.out.later hb)
     clear hb hp)
  | (with_reducible refine wpAt 25 ?_
     refine wpList_load_row rfl 44 (.tmp 1) rfl w.heap.size rfl 44 _ _ _ (HQ.out _ HB16.out) zU44 rfl HQI.out ?_)
  | (go_at_call 22
     refine (HRE.out _ HB6.out).mono ?_
     rintro e w7 ⟨hb, cA, cn, cp, rfl, hp⟩
     have HB7 := hidT HB6 hb
     have HB17 := hidT HB16 hb
     have HP7 := Hi (HP6.out.later hb)
     have HC7 := Hi hp
     have HOWN7 := Hi (HOWN6.out.below hb HOWN6.out.lt)
     have HAT7 := Hi (HAT6.out.later hb)
     obtain ⟨w8, hw8⟩ : ∃ v, w7.alloc (.cells #[.slice none 0 0] 50) = v := ⟨_, rfl⟩
     have HN8 := Hi (newB hw8)
     have HW8 : Hid (Wr w8 w7.heap.size w7.heap.size (.slice none 0 0) []) := ⟨newK hw8, World.ownsRow_nil _ _ _ _⟩
     have HOWN8 := Hi (HOWN7.out.below HN8.out HOWN7.out.lt)
     clear hb hp)
  | (with_reducible refine wpAt 30 ?_
     refine wpList_load_at (by rfl) 29 (.tmp 29) rfl ⟨g3, 1, none⟩ rfl cc _ (row_tailE HOWN8.out) zU29 rfl HCI.out ?_)
  | (go_at_call 23
     refine (HOP.out w7 cc HAT7.out w8 w7.heap.size w7.heap.size (.slice none 0 0) zR zR HN8.out HW8.out HN8.out.size).mono ?_
     rintro e w9 ⟨rfl, v9, hwr⟩
     have HW9 : Hid (Wr w9 w7.heap.size w7.heap.size v9 pb) := hwr.1
     have hb79 : Below w7.heap.size w7 w9 := HN8.out.trans (hwr.2.1.below (by simp [Value.ownBlock]) HN8.out.size)
     have HB9 := hidT HB7 hb79
     have HB19 := hidT HB17 hb79
     have HP9 := Hi (HP7.out.later hb79)
     have HC9 := Hi (HC7.out.later hb79)
     have HOWN9 := Hi (HOWN7.out.below hb79 HOWN7.out.lt)
     have HAT9 := Hi (HAT7.out.later hb79)
     clear hwr hb79))
 have HQ9 : Hid (∀ W, Below w9.heap.size w9 W → Blk W w.heap.size 44 (Value.int .i32 z :: xs).toArray) := fun W hW => HQ.out W (HB19.out.trans (hW.mono HB19.out.size))
 have HBY : Hid (∀ W, Below w9.heap.size w9 W → Calls Tryz.prog 25 #[.pointer (some ⟨w7.heap.size, 0, none⟩)] W fun e w' => ∃ v, e = .returned v ∧ PB pb v w' ∧ Below W.heap.size W w') := fun W hW => (wBytes_any _ _ v9 pb W (HW9.out.later hW) (by omega)).mono fun e w' ⟨A, c, h1, h2, h3⟩ => ⟨_, h1, ⟨A, _, c, rfl, PBs.own h2 rfl⟩, h3⟩
 have HGE : Hid (∀ W A n c, PBs pb A n c W → Below w9.heap.size w9 W → Calls Tryz.prog 24 #[.slice A n c, .agg xs.toArray, .int .i64 ee] W fun e w' => e = .returned (.bool true) ∧ Below W.heap.size W w') := fun W A n c hp hW => HGETS.out W A n c hp (HB9.out.trans (hW.mono HB9.out.size))
 clear HGETS HENC HRE HOP HOWN5 HAT5 HB5 HB15 HB6 HB16 HP6 HOWN6 HAT6 HB7 HB17 HP7 HC7 HOWN7 HAT7 HN8 HW8 HOWN8 hw8
 refine wp_region_ord (w0 := w9) (.inr (PB pb) ::
  .inl (.pointer (some ⟨w.heap.size, 1, none⟩)) ::
  .inl (.agg xs.toArray) ::
  .inl (.int .i64 ee) ::
  .inl (.bool true) ::
  .inl (.bool false) :: []) rfl (by kernel_rfl) (by kernel_rfl) (by kernel_rfl) (by kernel_rfl) (by
  intro p hp
  simp only [zH, reduceCtorEq, Sum.inr.injEq, zI, or_false, false_or] at hp
  rcases hp with rfl <;> (rintro v W W' h hb; exact h.later hb)) ⟨fun ac W hb o q K hK => op_callG (want_free rfl) 25 _ _ rfl (#[.pointer (some ⟨w7.heap.size, 0, none⟩)]) (by simp [yA (hO o 8)]) Tryz.func25 (by kernel_rfl) (by kernel_rfl) (HBY.out W hb) (fun v w' hv hbl => hK _ _ hv hbl),
  fun ac W hb o q K hK => op_u (u := .pointer (some ⟨w.heap.size, 1, none⟩)) rfl (r_field 44 _ 1 rfl (yA (hO o 1)) zU44 rfl (n := 18) isz_29 rfl) (kR hK),
  fun ac W hb o q K hK => op_u (u := .agg xs.toArray) rfl (r_load_row 29 _ rfl (yA (dD q 1 33)) xs (row_tailE (HQ9.out _ hb)) zU29 rfl HXI.out) (kR hK),
  fun ac W hb o q K hK => op_u (u := .int .i64 ee) rfl (r_move _ rfl (yA (hO o 7))) (kR hK),
  fun ac W hb hold hdep K hK => by
   obtain ⟨v32, e32, h32⟩ : ∃ v, ac.tmps[32]? = some v ∧ (PB pb) v W := hdep ⟨0, .data⟩ (by simp) rfl 32 rfl
   obtain ⟨A, n, c, rfl, h32⟩ := h32
   exact op_call (c := true) (u := .bool true) (want_free rfl) 24 _ _ rfl (#[.slice A n c, .agg xs.toArray, .int .i64 ee]) (fun _ => by simp [yA e32, yA (dD hdep 2 34), yA (dD hdep 3 35)]) Tryz.func24 (by kernel_rfl) (by kernel_rfl) (fun _ => HGE.out W A n c h32 hb) (fun w' hbl => hK _ _ rfl hbl),
  fun ac W hb o q K hK => op_u (u := .bool false) rfl (r_not _ _ rfl (yA (dD q 4 36))) (kR hK), trivial⟩ ?_
 intro w10 hb10
 simp only [Fin, Act.put, zD, zA, zB]
 rintro v32 -
 go_wp2
 have HQ10 : Hid (∀ W, Below w10.heap.size w10 W → Blk W w.heap.size 44 (Value.int .i32 z :: xs).toArray) := fun W hW => HQ9.out W (hb10.trans (hW.mono hb10.size))
 have HBY10 : Hid (∀ W, Below w10.heap.size w10 W → Calls Tryz.prog 25 #[.pointer (some ⟨w7.heap.size, 0, none⟩)] W fun e w' => ∃ v, e = .returned v ∧ PB pb v w' ∧ Below W.heap.size W w') := fun W hW => HBY.out W (hb10.trans (hW.mono hb10.size))
 have HB10 := hidT HB9 hb10
 have HAL10 : Hid (∀ W, Below w10.heap.size w10 W → Calls Tryz.prog 9 #[] W fun e w' => e = .returned (.bool true) ∧ Below W.heap.size W w') := fun W hW => HAL.out W (HB10.out.trans (hW.mono HB10.out.size))
 have HPU : Hid (∀ W, Below w10.heap.size w10 W → Calls Tryz.prog 26 #[.slice none 0 0, .agg xs.toArray] W fun e w' => ∃ v, e = .returned v ∧ PB pb v w' ∧ Below W.heap.size W w') := fun W hW => HPUT.out W (HB10.out.trans (hW.mono HB10.out.size))
 have HOWN : Hid (∀ W, Below w10.heap.size w10 W → Blk W g3 44 (Value.int .i32 z :: cc).toArray) := fun W hW => HOWN9.out.below (hb10.trans (hW.mono hb10.size)) HOWN9.out.lt
 have HSM : Hid (∀ W, Below w10.heap.size w10 W → Calls Tryz.prog 15 #[.agg cc.toArray, .agg xs.toArray] W fun e w' => e = .returned (.bool true) ∧ Below W.heap.size W w') := fun W hW => HSAME.out W cc (HAT9.out.later (hb10.trans (hW.mono hb10.size))) (HB10.out.trans (hW.mono HB10.out.size))
 obtain ⟨sB, hsB⟩ : ∃ s : ByteArray, s = ⟨eb.toArray⟩ := ⟨_, rfl⟩
 obtain ⟨sP, hsP⟩ : ∃ s : ByteArray, s = ⟨pb.toArray⟩ := ⟨_, rfl⟩
 have HSP := Hi hsP
 have HCVB : Hid (∀ W, Below w10.heap.size w10 W → (convert 22 9 (.slice bA bn bc)).run Tryz.prog W = .ok (.string sB) W) := fun W hW => (HP9.out.later (hb10.trans (hW.mono hb10.size))).conv hsB
 have HCVC : Hid (∀ W, Below w10.heap.size w10 W → (convert 22 9 (.slice cA cn cp)).run Tryz.prog W = .ok (.string sB) W) := fun W hW => (HC9.out.later (hb10.trans (hW.mono hb10.size))).conv hsB
 clear hb10 hsB hsP
 by_cases he : ee = 0
 · have HEN : Hid ((ee != 0) = false) := by unfold Hid; simp [he]
   refine wp_region_ord (w0 := w10) (.inl (.slice bA bn bc) ::
    .inl (.string sB) ::
    .inl (.slice cA cn cp) ::
    .inl (.string sB) ::
    .inl (.bool true) ::
    .inl (.bool true) ::
    .inl (.int .i64 ee) ::
    .inl (.int .i64 ee) ::
    .inl (.bool true) ::
    .inl (.bool true) ::
    .inl (.bool true) ::
    .inl (.pointer (some ⟨g3, 1, none⟩)) ::
    .inl (.agg cc.toArray) ::
    .inl (.pointer (some ⟨w.heap.size, 1, none⟩)) ::
    .inl (.agg xs.toArray) ::
    .inl (.bool true) ::
    .inl (.bool true) ::
    .inl (.bool true) ::
    .inl (.int .i64 ee) ::
    .inl (.bool false) ::
    .inl (.bool false) ::
    .inr (PB pb) ::
    .inl (.string sP) ::
    .inl (.pointer (some ⟨w.heap.size, 1, none⟩)) ::
    .inl (.agg xs.toArray) ::
    .inr (PB pb) ::
    .inl (.string sP) ::
    .inl (.bool true) ::
    .inl (.bool true) ::
    .inl (.bool true) ::
    .inl (.bool true) ::
    .inl (.bool true) ::
    .inl (.bool true) ::
    .inl (.bool true) :: []) rfl (by kernel_rfl) (by kernel_rfl) (by kernel_rfl) (by kernel_rfl) (by
    intro p hp
    simp only [zH, reduceCtorEq, Sum.inr.injEq, zI, or_false, false_or] at hp
    rcases hp with rfl | rfl <;> (rintro v W W' h hb; exact h.later hb)) ⟨fun ac W hb o q K hK => op_u (u := .slice bA bn bc) rfl (r_move _ rfl (yA (hO o 4))) (kR hK),
    fun ac W hb o q K hK => op_u (u := .string sB) rfl (r_conv 22 9 _ rfl (yA (dD q 0 38)) (HCVB.out W hb)) (kR hK),
    fun ac W hb o q K hK => op_u (u := .slice cA cn cp) rfl (r_move _ rfl (yA (hO o 6))) (kR hK),
    fun ac W hb o q K hK => op_u (u := .string sB) rfl (r_conv 22 9 _ rfl (yA (dD q 2 40)) (HCVC.out W hb)) (kR hK),
    fun ac W hb o q K hK => op_u (u := .bool true) rfl ((r_seq 9 _ _ _ rfl (yA (dD q 1 39)) (yA (dD q 3 41))).trans (by simp)) (kR hK),
    fun ac W hb o q K hK => op_u (u := .bool true) rfl (r_move _ rfl (yA (dD q 4 42))) (kR hK),
    fun ac W hb o q K hK => op_g (c := true) (u := .int .i64 ee) ((wQ (b := true) (x := true) (dG q 5 43)).trans rfl) (fun _ => r_move _ rfl (yA (hO o 5))) (kR hK),
    fun ac W hb o q K hK => op_g (c := true) (u := .int .i64 ee) ((wQ (b := true) (x := true) (dG q 5 43)).trans rfl) (fun _ => r_move _ rfl (yA (hO o 7))) (kR hK),
    fun ac W hb o q K hK => op_g (c := true) (u := .bool true) ((wQ (b := true) (x := true) (dG q 5 43)).trans rfl) (fun _ => (r_ieq 3 _ _ _ rfl (yA (dD q 6 44)) (yA (dD q 7 45))).trans (by simp)) (kR hK),
    fun ac W hb o q K hK => op_u (u := .bool true) rfl (r_and _ _ _ rfl (yA (dD q 5 43)) (fun _ => yA (dD q 8 46)) rfl) (kR hK),
    fun ac W hb o q K hK => op_u (u := .bool true) rfl (r_move _ rfl (yA (dD q 9 47))) (kR hK),
    fun ac W hb o q K hK => op_g (c := true) (u := .pointer (some ⟨g3, 1, none⟩)) ((wQ (b := true) (x := true) (dG q 10 48)).trans rfl) (fun _ => r_field 44 _ 1 rfl (yA (hO o 3)) zU44 rfl (n := 18) isz_29 rfl) (kR hK),
    fun ac W hb o q K hK => op_g (c := true) (u := .agg cc.toArray) ((wQ (b := true) (x := true) (dG q 10 48)).trans rfl) (fun _ => r_load_row 29 _ rfl (yA (dD q 11 49)) cc (row_tailE (HOWN.out _ hb)) zU29 rfl HCI.out) (kR hK),
    fun ac W hb o q K hK => op_g (c := true) (u := .pointer (some ⟨w.heap.size, 1, none⟩)) ((wQ (b := true) (x := true) (dG q 10 48)).trans rfl) (fun _ => r_field 44 _ 1 rfl (yA (hO o 1)) zU44 rfl (n := 18) isz_29 rfl) (kR hK),
    fun ac W hb o q K hK => op_g (c := true) (u := .agg xs.toArray) ((wQ (b := true) (x := true) (dG q 10 48)).trans rfl) (fun _ => r_load_row 29 _ rfl (yA (dD q 13 51)) xs (row_tailE (HQ10.out _ hb)) zU29 rfl HXI.out) (kR hK),
    fun ac W hb o q K hK => op_call (c := true) (u := .bool true) ((wQ (b := true) (x := true) (dG q 10 48)).trans rfl) 15 _ _ rfl (#[.agg cc.toArray, .agg xs.toArray]) (fun _ => by simp [yA (dD q 12 50), yA (dD q 14 52)]) Tryz.func15 (by kernel_rfl) (by kernel_rfl) (fun _ => HSM.out W hb) (fun w' hbl => hK _ _ rfl hbl),
    fun ac W hb o q K hK => op_u (u := .bool true) rfl (r_and _ _ _ rfl (yA (dD q 10 48)) (fun _ => yA (dD q 15 53)) rfl) (kR hK),
    fun ac W hb o q K hK => op_u (u := .bool true) rfl (r_move _ rfl (yA (dD q 16 54))) (kR hK),
    fun ac W hb o q K hK => op_g (c := true) (u := .int .i64 ee) ((wQ (b := true) (x := true) (dG q 17 55)).trans rfl) (fun _ => r_move _ rfl (yA (hO o 7))) (kR hK),
    fun ac W hb o q K hK => op_g (c := true) (u := .bool false) ((wQ (b := true) (x := true) (dG q 17 55)).trans rfl) (fun _ => (r_ine 3 _ _ _ rfl (yA (dD q 18 56)) rfl).trans (by rw [HEN.out])) (kR hK),
    fun ac W hb o q K hK => op_g (c := true) (u := .bool false) ((wQ (b := true) (x := true) (dG q 17 55)).trans rfl) (fun _ => r_move _ rfl (yA (dD q 19 57))) (kR hK),
    fun ac W hb o q K hK => op_callG ((wQ (b := false) (x := false) (dG q 20 58)).trans rfl) 25 _ _ rfl (#[.pointer (some ⟨w7.heap.size, 0, none⟩)]) (by simp [yA (hO o 8)]) Tryz.func25 (by kernel_rfl) (by kernel_rfl) (HBY10.out W hb) (fun v w' hv hbl => hK _ _ hv hbl),
    fun ac W hb hold hdep K hK => by
     obtain ⟨v59, e59, h59⟩ : ∃ v, ac.tmps[59]? = some v ∧ (PB pb) v W := hdep ⟨21, .data⟩ (by simp) rfl 59 rfl
     obtain ⟨A, n, c, rfl, h59⟩ := h59
     exact op_g (c := true) (u := .string sP) ((wQ (b := false) (x := false) (dG hdep 20 58)).trans rfl) (fun _ => r_conv 22 9 _ rfl (yA e59) (h59.conv HSP.out)) (kR hK),
    fun ac W hb o q K hK => op_g (c := true) (u := .pointer (some ⟨w.heap.size, 1, none⟩)) ((wQ (b := false) (x := false) (dG q 20 58)).trans rfl) (fun _ => r_field 44 _ 1 rfl (yA (hO o 1)) zU44 rfl (n := 18) isz_29 rfl) (kR hK),
    fun ac W hb o q K hK => op_g (c := true) (u := .agg xs.toArray) ((wQ (b := false) (x := false) (dG q 20 58)).trans rfl) (fun _ => r_load_row 29 _ rfl (yA (dD q 23 61)) xs (row_tailE (HQ10.out _ hb)) zU29 rfl HXI.out) (kR hK),
    fun ac W hb o q K hK => op_callG ((wQ (b := false) (x := false) (dG q 20 58)).trans rfl) 26 _ _ rfl (#[.slice none 0 0, .agg xs.toArray]) (by simp [(show ac.eval (.const (.slice none 0 0)) = .slice none 0 0 from rfl), yA (dD q 24 62)]) Tryz.func26 (by kernel_rfl) (by kernel_rfl) (HPU.out W hb) (fun v w' hv hbl => hK _ _ hv hbl),
    fun ac W hb hold hdep K hK => by
     obtain ⟨v63, e63, h63⟩ : ∃ v, ac.tmps[63]? = some v ∧ (PB pb) v W := hdep ⟨25, .data⟩ (by simp) rfl 63 rfl
     obtain ⟨A, n, c, rfl, h63⟩ := h63
     exact op_g (c := true) (u := .string sP) ((wQ (b := false) (x := false) (dG hdep 20 58)).trans rfl) (fun _ => r_conv 22 9 _ rfl (yA e63) (h63.conv HSP.out)) (kR hK),
    fun ac W hb o q K hK => op_g (c := true) (u := .bool true) ((wQ (b := false) (x := false) (dG q 20 58)).trans rfl) (fun _ => (r_seq 9 _ _ _ rfl (yA (dD q 22 60)) (yA (dD q 26 64))).trans (by simp)) (kR hK),
    fun ac W hb o q K hK => op_g (c := true) (u := .bool true) ((wQ (b := true) (x := true) (dG q 17 55)).trans rfl) (fun _ => r_or _ _ _ rfl (yA (dD q 20 58)) rfl (fun _ => yA (dD q 27 65))) (kR hK),
    fun ac W hb o q K hK => op_u (u := .bool true) rfl (r_and _ _ _ rfl (yA (dD q 17 55)) (fun _ => yA (dD q 28 66)) rfl) (kR hK),
    fun ac W hb o q K hK => op_u (u := .bool true) rfl (r_move _ rfl (yA (dD q 29 67))) (kR hK),
    fun ac W hb o q K hK => op_call (c := true) (u := .bool true) ((wQ (b := true) (x := true) (dG q 30 68)).trans rfl) 9 _ _ rfl (#[]) (fun _ => by simp []) Tryz.func9 (by kernel_rfl) (by kernel_rfl) (fun _ => HAL10.out W hb) (fun w' hbl => hK _ _ rfl hbl),
    fun ac W hb o q K hK => op_u (u := .bool true) rfl (r_and _ _ _ rfl (yA (dD q 30 68)) (fun _ => yA (dD q 31 69)) rfl) (kR hK),
    fun ac W hb o q K hK => op_u (u := .bool true) rfl (r_assign _ rfl (yA (dD q 32 70))) (kR hK), trivial⟩ ?_
   intro w11 hb11
   simp only [Fin, Act.put, zD, zA, zB]
   rintro v59 - v63 -
   have HB11 := hidT HB10 hb11
   clear hb11
   go_wp2
   go_ret
   exact ⟨rfl, HB11.out⟩
 · have HEN : Hid ((ee != 0) = true) := by unfold Hid; simpa using he
   refine wp_region_ord (w0 := w10) (.inl (.slice bA bn bc) ::
    .inl (.string sB) ::
    .inl (.slice cA cn cp) ::
    .inl (.string sB) ::
    .inl (.bool true) ::
    .inl (.bool true) ::
    .inl (.int .i64 ee) ::
    .inl (.int .i64 ee) ::
    .inl (.bool true) ::
    .inl (.bool true) ::
    .inl (.bool true) ::
    .inl (.pointer (some ⟨g3, 1, none⟩)) ::
    .inl (.agg cc.toArray) ::
    .inl (.pointer (some ⟨w.heap.size, 1, none⟩)) ::
    .inl (.agg xs.toArray) ::
    .inl (.bool true) ::
    .inl (.bool true) ::
    .inl (.bool true) ::
    .inl (.int .i64 ee) ::
    .inl (.bool true) ::
    .inl (.bool true) ::
    .inl undef ::
    .inl undef ::
    .inl undef ::
    .inl undef ::
    .inl undef ::
    .inl undef ::
    .inl undef ::
    .inl (.bool true) ::
    .inl (.bool true) ::
    .inl (.bool true) ::
    .inl (.bool true) ::
    .inl (.bool true) ::
    .inl (.bool true) :: []) rfl (by kernel_rfl) (by kernel_rfl) (by kernel_rfl) (by kernel_rfl) (nomono rfl) ⟨fun ac W hb o q K hK => op_u (u := .slice bA bn bc) rfl (r_move _ rfl (yA (hO o 4))) (kR hK),
    fun ac W hb o q K hK => op_u (u := .string sB) rfl (r_conv 22 9 _ rfl (yA (dD q 0 38)) (HCVB.out W hb)) (kR hK),
    fun ac W hb o q K hK => op_u (u := .slice cA cn cp) rfl (r_move _ rfl (yA (hO o 6))) (kR hK),
    fun ac W hb o q K hK => op_u (u := .string sB) rfl (r_conv 22 9 _ rfl (yA (dD q 2 40)) (HCVC.out W hb)) (kR hK),
    fun ac W hb o q K hK => op_u (u := .bool true) rfl ((r_seq 9 _ _ _ rfl (yA (dD q 1 39)) (yA (dD q 3 41))).trans (by simp)) (kR hK),
    fun ac W hb o q K hK => op_u (u := .bool true) rfl (r_move _ rfl (yA (dD q 4 42))) (kR hK),
    fun ac W hb o q K hK => op_g (c := true) (u := .int .i64 ee) ((wQ (b := true) (x := true) (dG q 5 43)).trans rfl) (fun _ => r_move _ rfl (yA (hO o 5))) (kR hK),
    fun ac W hb o q K hK => op_g (c := true) (u := .int .i64 ee) ((wQ (b := true) (x := true) (dG q 5 43)).trans rfl) (fun _ => r_move _ rfl (yA (hO o 7))) (kR hK),
    fun ac W hb o q K hK => op_g (c := true) (u := .bool true) ((wQ (b := true) (x := true) (dG q 5 43)).trans rfl) (fun _ => (r_ieq 3 _ _ _ rfl (yA (dD q 6 44)) (yA (dD q 7 45))).trans (by simp)) (kR hK),
    fun ac W hb o q K hK => op_u (u := .bool true) rfl (r_and _ _ _ rfl (yA (dD q 5 43)) (fun _ => yA (dD q 8 46)) rfl) (kR hK),
    fun ac W hb o q K hK => op_u (u := .bool true) rfl (r_move _ rfl (yA (dD q 9 47))) (kR hK),
    fun ac W hb o q K hK => op_g (c := true) (u := .pointer (some ⟨g3, 1, none⟩)) ((wQ (b := true) (x := true) (dG q 10 48)).trans rfl) (fun _ => r_field 44 _ 1 rfl (yA (hO o 3)) zU44 rfl (n := 18) isz_29 rfl) (kR hK),
    fun ac W hb o q K hK => op_g (c := true) (u := .agg cc.toArray) ((wQ (b := true) (x := true) (dG q 10 48)).trans rfl) (fun _ => r_load_row 29 _ rfl (yA (dD q 11 49)) cc (row_tailE (HOWN.out _ hb)) zU29 rfl HCI.out) (kR hK),
    fun ac W hb o q K hK => op_g (c := true) (u := .pointer (some ⟨w.heap.size, 1, none⟩)) ((wQ (b := true) (x := true) (dG q 10 48)).trans rfl) (fun _ => r_field 44 _ 1 rfl (yA (hO o 1)) zU44 rfl (n := 18) isz_29 rfl) (kR hK),
    fun ac W hb o q K hK => op_g (c := true) (u := .agg xs.toArray) ((wQ (b := true) (x := true) (dG q 10 48)).trans rfl) (fun _ => r_load_row 29 _ rfl (yA (dD q 13 51)) xs (row_tailE (HQ10.out _ hb)) zU29 rfl HXI.out) (kR hK),
    fun ac W hb o q K hK => op_call (c := true) (u := .bool true) ((wQ (b := true) (x := true) (dG q 10 48)).trans rfl) 15 _ _ rfl (#[.agg cc.toArray, .agg xs.toArray]) (fun _ => by simp [yA (dD q 12 50), yA (dD q 14 52)]) Tryz.func15 (by kernel_rfl) (by kernel_rfl) (fun _ => HSM.out W hb) (fun w' hbl => hK _ _ rfl hbl),
    fun ac W hb o q K hK => op_u (u := .bool true) rfl (r_and _ _ _ rfl (yA (dD q 10 48)) (fun _ => yA (dD q 15 53)) rfl) (kR hK),
    fun ac W hb o q K hK => op_u (u := .bool true) rfl (r_move _ rfl (yA (dD q 16 54))) (kR hK),
    fun ac W hb o q K hK => op_g (c := true) (u := .int .i64 ee) ((wQ (b := true) (x := true) (dG q 17 55)).trans rfl) (fun _ => r_move _ rfl (yA (hO o 7))) (kR hK),
    fun ac W hb o q K hK => op_g (c := true) (u := .bool true) ((wQ (b := true) (x := true) (dG q 17 55)).trans rfl) (fun _ => (r_ine 3 _ _ _ rfl (yA (dD q 18 56)) rfl).trans (by rw [HEN.out])) (kR hK),
    fun ac W hb o q K hK => op_g (c := true) (u := .bool true) ((wQ (b := true) (x := true) (dG q 17 55)).trans rfl) (fun _ => r_move _ rfl (yA (dD q 19 57))) (kR hK),
    fun ac W hb o q K hK => op_g (c := false) (u := undef) ((wQ (b := false) (x := true) (dG q 20 58)).trans rfl) (fun hc => by cases hc) (kR hK),
    fun ac W hb o q K hK => op_g (c := false) (u := undef) ((wQ (b := false) (x := true) (dG q 20 58)).trans rfl) (fun hc => by cases hc) (kR hK),
    fun ac W hb o q K hK => op_g (c := false) (u := undef) ((wQ (b := false) (x := true) (dG q 20 58)).trans rfl) (fun hc => by cases hc) (kR hK),
    fun ac W hb o q K hK => op_g (c := false) (u := undef) ((wQ (b := false) (x := true) (dG q 20 58)).trans rfl) (fun hc => by cases hc) (kR hK),
    fun ac W hb o q K hK => op_g (c := false) (u := undef) ((wQ (b := false) (x := true) (dG q 20 58)).trans rfl) (fun hc => by cases hc) (kR hK),
    fun ac W hb o q K hK => op_g (c := false) (u := undef) ((wQ (b := false) (x := true) (dG q 20 58)).trans rfl) (fun hc => by cases hc) (kR hK),
    fun ac W hb o q K hK => op_g (c := false) (u := undef) ((wQ (b := false) (x := true) (dG q 20 58)).trans rfl) (fun hc => by cases hc) (kR hK),
    fun ac W hb o q K hK => op_g (c := true) (u := .bool true) ((wQ (b := true) (x := true) (dG q 17 55)).trans rfl) (fun _ => r_or (c := true) _ _ _ rfl (yA (dD q 20 58)) rfl (fun hb => by cases hb)) (kR hK),
    fun ac W hb o q K hK => op_u (u := .bool true) rfl (r_and _ _ _ rfl (yA (dD q 17 55)) (fun _ => yA (dD q 28 66)) rfl) (kR hK),
    fun ac W hb o q K hK => op_u (u := .bool true) rfl (r_move _ rfl (yA (dD q 29 67))) (kR hK),
    fun ac W hb o q K hK => op_call (c := true) (u := .bool true) ((wQ (b := true) (x := true) (dG q 30 68)).trans rfl) 9 _ _ rfl (#[]) (fun _ => by simp []) Tryz.func9 (by kernel_rfl) (by kernel_rfl) (fun _ => HAL10.out W hb) (fun w' hbl => hK _ _ rfl hbl),
    fun ac W hb o q K hK => op_u (u := .bool true) rfl (r_and _ _ _ rfl (yA (dD q 30 68)) (fun _ => yA (dD q 31 69)) rfl) (kR hK),
    fun ac W hb o q K hK => op_u (u := .bool true) rfl (r_assign _ rfl (yA (dD q 32 70))) (kR hK), trivial⟩ ?_
   intro w11 hb11
   simp only [Fin, Act.put, zD, zA, zB]
   have HB11 := hidT HB10 hb11
   clear hb11
   go_wp2
   go_ret
   exact ⟨rfl, HB11.out⟩
section
open Go.ChangeShapes Go.WideShapes Go.ChangeAt Go.RowKit

section
variable {H : Type} {enc : TypeId × Value → H} {W : World} {base : Nat}
theorem rdd_of {P : Program} {v : Value} {d : DataW H} {p : List MemPlace} {t : TypeId} {ts : List TypeId} {ds : List (DataW H)} (j : Nat) (h : DataW.Trod enc P W 0 (fun _ => true) true t v d p)
 (hsz : (DataW.weightsEach P ts ds).all (· ≤ reachBytes) = true) (ht : ts[j]? = some t) (hd : ds[j]? = some d) : RdD enc P W t v.cells.toList d := by
 obtain ⟨fuel, hf⟩ := h
 exact ⟨fuel, _, hf, fun n hn => by simpa using List.all_eq_true.1 hsz _ (DataW.weights_mem_each ht hd n hn)⟩
theorem bulkAll_part {d : DataW H} {l : List (DataW H)} (h : d ∈ l) : Rows.uptoBulk d ≤ Rows.uptoBulkAll l := by
 induction l with
 | nil => cases h
 | cons x r ih =>
   simp only [Rows.uptoBulkAll]
   rcases zH.1 h with e | e
   · subst e; omega
   · have := ih e; omega
theorem agg_arg {t : TypeId} {fs : Array Field} (ht : Tryz.prog.underlying t = some (.struct fs)) {v : Value} (hv : Value.okWide Tryz.prog W .any base t v) {cs0 : List Value} (hcs : v.cells.toList = cs0) : v = .agg cs0.toArray := by
 obtain ⟨cs, rfl, _⟩ : ∃ cs, v = .agg cs ∧ True := by
  unfold Value.okWide at hv
  rw [ht] at hv
  obtain ⟨cs, h, _⟩ := hv
  exact ⟨cs, h, trivial⟩
 have : cs = cs0.toArray := Array.ext' (by simpa [Value.cells] using hcs)
 rw [this]
end
theorem env_laid {l : List (String × DataW Unit)} {W : World} (hlaid : laidMetH Tryz.prog l W) (hp : (l.all fun x => x.2.handleName?.isNone) = true) (m1 : ("unicode/utf8.first", Rows.laid_unicode_utf8_first) ∈ l) (m2 : ("unicode/utf8.acceptRanges", Rows.laid_unicode_utf8_acceptRanges) ∈ l) : Env W := env_of hlaid hp m1 m2
open Go.ChangeShapes Go.WideShapes Go.ChangeAt Go.RowKit

section
variable {H : Type} {enc : TypeId × Value → H} {W : World} {base : Nat}
theorem req_argO {v : Value} {d : DataW H} (hv : Value.okWide Tryz.prog W .any base 44 v) (h : RdD enc Tryz.prog W 44 v.cells.toList d) : ∃ (z : Int) (x : OpC) (xs : List Value), v = .agg (Value.int .i32 z :: xs).toArray ∧ (Lit.int .i32 z).wf = true ∧ At W none x xs ∧ x.bulk ≤ Rows.uptoBulk d := by
 obtain ⟨hl, ds, hds, hbu, hf⟩ := h.structU zU44
 rw [show Tryz.prog.cellsOf 44 = 20 by kernel_rfl] at hl
 obtain ⟨d0, d1, rfl⟩ : ∃ d0 d1, ds = [d0, d1] := by
  match ds, hds with
  | [d0, d1], _ => exact ⟨_, _, rfl⟩
 have h0 : RdD enc Tryz.prog W 21 ((v.cells.toList.drop 0).take (Tryz.prog.cellsOf 21)) d0 := (hf 0 _ _ rfl rfl).2
 have h1 : RdD enc Tryz.prog W 29 ((v.cells.toList.drop 1).take (Tryz.prog.cellsOf 29)) d1 := (hf 1 _ _ rfl rfl).2
 rw [show Tryz.prog.cellsOf 21 = 1 by kernel_rfl] at h0
 rw [show Tryz.prog.cellsOf 29 = 19 by kernel_rfl] at h1
 obtain ⟨cs, hcs⟩ : ∃ cs, cs = v.cells.toList := ⟨_, rfl⟩
 rw [← hcs] at hl h0 h1
 obtain ⟨c, r, rfl⟩ : ∃ c r, cs = c :: r := by
  match cs, hl with
  | c :: r, _ => exact ⟨_, _, rfl⟩
 obtain ⟨z, e0, w0⟩ := h0.rd.int zU21
 have e0 : c = .int .i32 z := by simpa using e0
 subst e0
 have hr : r.length = 19 := by simpa using hl
 have h1 : RdD enc Tryz.prog W 29 r d1 := by
  have : ((Value.int .i32 z :: r).drop 1).take 19 = r := by simp [List.take_of_length_le, hr]
  rwa [this] at h1
 obtain ⟨x, hx, hb⟩ := op_openN (SizeOf.sizeOf d1) d1 zR _ h1
 simp only [Rows.uptoBulkAll] at hbu
 exact ⟨z, x, r, agg_arg zU44 hv hcs.symm, w0, hx, by omega⟩
end
end
section
open Go.ChangeShapes Go.WideShapes Go.ChangeAt Go.RowKit

theorem opsEncodes_walk {H : Type} (enc : TypeId × Value → H) (base : Nat) (W : World) (v0 : Value) (d0 : DataW H) (p0 : List MemPlace) (hv0 : Value.okWide Tryz.prog W .any base 44 v0) (h0 : DataW.Trod enc Tryz.prog W 0 (fun _ => true) true 44 v0 d0 p0)
 (hsz : (DataW.weightsEach Tryz.prog ([44] : List TypeId) ([d0] : List (DataW H))).all (· ≤ reachBytes) = true)
 (hk : Rows.uptoBulkAll ([d0] : List (DataW H)) ≤ 1048576) (hlaid : laidMetH Tryz.prog Rows.opsEncodesUptoRow.laid W) :
 Calls Tryz.prog 5 #[v0] W fun e W' => e = .returned (.bool true) ∧ Below W.heap.size W W' := by
 obtain ⟨z, x, xs, rfl, hz, hx, hb⟩ := req_argO hv0 (rdd_of 0 h0 hsz rfl rfl)
 have e0 := bulkAll_part (d := d0) (l := [d0]) (by simp)
 exact encodesLaw_walk hx (by omega) (env_laid hlaid (by kernel_rfl) (by simp [Rows.opsEncodesUptoRow]) (by simp [Rows.opsEncodesUptoRow]))
end
end Go.Proofs.YtpjjnmdfgcfnmaaGreatDoor
