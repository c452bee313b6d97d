/- The reader: texts, lists of what a function reads. -/
import Derived.Test.YtnbaajplelchjaaGreatDoorJra
import Derived.Test.YtnbaajplelchjaaGreatDoorJu
import Derived.Defers
import Derived.Recover
import Derived.Lib.Builder
set_option linter.unusedVariables false
set_option linter.unusedSimpArgs false
namespace Go.Proofs.YtnbaajplelchjaaGreatDoor
open Go.RowKit

def vText (x : List UInt8) (v : Value) (_ : World) : Prop := v = .string ⟨x.toArray⟩

theorem gBuf_inl {most : Int} {l x : List UInt8} {p q : Nat} (h : gBuf most l p = .inl (x, q)) : p + 4 + x.length = q ∧ q ≤ l.length := by
  unfold gBuf at h
  split at h
  · rename_i n q' hs
    obtain ⟨_, rfl, _, _, _⟩ := gSize_inl hs
    split at h
    · simp only [Sum.inl.injEq, Prod.mk.injEq] at h
      obtain ⟨rfl, rfl⟩ := h
      rw [List.length_take, List.length_drop]
      omega
    · cases h
  · cases h

set_option maxRecDepth 100000 in
set_option maxHeartbeats 400000 in
theorem rText_any (B : Nat → Prop) (R c p : Nat) (A : Option Addr) (l : List UInt8) (most : Int) (w : World) (h : Rdr w B R A c l p) :
    Calls Tryz.prog 66 #[.pointer (some ⟨R, 0, none⟩), .int .i64 most] w fun e w' => Rend B R c A l vText (gText most l p) w e w' := by
  have HI := rBytes_any B R c p A l most w h
  have H := Lib.hid h
  have hlen := h.len
  rcases hres : gBuf most l p with ⟨x, q⟩ | ⟨er, q⟩
  · rw [hres] at HI
    obtain ⟨hq1, hq2⟩ := gBuf_inl hres
    have HI := Lib.hid HI
    rcases Bool.eq_false_or_eq_true (Lib.validD x) with hv | hv
    · have hg : gText most l p = .inl (x, q) := by unfold gText; rw [hres]; exact if_pos hv
      have HG := Lib.hid hg
      have HV := Lib.hid hv
      have HQ := Lib.hid hq1
      have hx : x.length ≤ 140737488355328 := by omega
      clear h hg hres hv hq1
      go_enter Tryz.func66, Tryz.ntmps66
      go_wp2_with (first
        | (go_at_call 100; refine (done_any B R c p A l w H.out).mono ?_; rintro e w1 ⟨rfl, rfl⟩)
        | (go_at_call 120; refine (HI.out).mono ?_; rintro e w2 ⟨⟨v, rfl, A', c', rfl, hr, hn⟩, hkp, hR⟩; have HRD := Lib.hid hr; have HNC := Lib.hid hn.2; have HKP := Lib.hid hkp; have HR := Lib.hid hR; clear hr hn hkp hR)
        | (go_at_call 121; refine (valid_any A' _ c' w2.heap.size x w2 HRD.out HNC.out hx (Nat.le_refl _) HR.out.tab).mono ?_; rintro e w3 ⟨rfl, hb⟩; rw [HV.out]; have HB3 := Lib.hid hb
           have hcv := run_string_of_bytes (P := Tryz.prog) (w := w3) (src := 25) (e := 5) Tryz.underlying25 Tryz.underlying5 (HRD.out.below hb) (c := c') 9 Tryz.underlying9
           clear hb))
      go_ret
      exact Rend.yes HG.out rfl (HKP.out.to (Kp.of_below (X := []) HB3.out) (fun _ h _ => h) (fun _ h => by cases h)) (HR.out.later HB3.out)
    · have hg : gText most l p = .inr (22, p) := by unfold gText; rw [hres]; exact if_neg (by simp [hv])
      have HG := Lib.hid hg
      have HV := Lib.hid hv
      have HQ := Lib.hid hq1
      have hx : x.length ≤ 140737488355328 := by omega
      have hq3 : 4 + (x.length : Int) ≤ q := by omega
      clear h hg hres hv hq1
      go_enter Tryz.func66, Tryz.ntmps66
      go_wp2_with (first
        | (go_at_call 100; refine (done_any B R c p A l w H.out).mono ?_; rintro e w1 ⟨rfl, rfl⟩)
        | (go_at_call 120; refine (HI.out).mono ?_; rintro e w2 ⟨⟨v, rfl, A', c', rfl, hr, hn⟩, hkp, hR⟩; have HRD := Lib.hid hr; have HNC := Lib.hid hn.2; have HKP := Lib.hid hkp; have HR := Lib.hid hR; clear hr hn hkp hR)
        | (go_at_call 121; refine (valid_any A' _ c' w2.heap.size x w2 HRD.out HNC.out hx (Nat.le_refl _) HR.out.tab).mono ?_; rintro e w3 ⟨rfl, hb⟩; rw [HV.out]; have HB3 := Lib.hid hb; clear hb)
        | (go_at_call 122; refine (back_any B R c _ A l _ 22 (by omega) hq3 rfl _ (HR.out.later HB3.out)).mono ?_; rintro e w4 ⟨rfl, hk3, hR3⟩; have HK3 := Lib.hid hk3; have HR3 := Lib.hid hR3; clear hk3 hR3))
      have e : q - (4 + (x.length : Int)).toNat = p := by have := HQ.out; omega
      exact ⟨rfl, Rend.no HG.out ((HKP.out.to (Kp.of_below (X := []) HB3.out) (fun _ h _ => h) (fun _ h => by cases h)).trans HK3.out) (e ▸ HR3.out)⟩
  · rw [hres] at HI
    have HI := Lib.hid HI
    have hg : gText most l p = .inr (er, q) := by unfold gText; rw [hres]
    have HG := Lib.hid hg
    clear h hg hres
    go_enter Tryz.func66, Tryz.ntmps66
    go_wp2_with (first
      | (go_at_call 100; refine (done_any B R c p A l w H.out).mono ?_; rintro e w1 ⟨rfl, rfl⟩)
      | (go_at_call 120; refine (HI.out).mono ?_; rintro e w2 ⟨rfl, hkp, hR⟩; have HKP := Lib.hid hkp; have HR := Lib.hid hR; clear hkp hR))
    exact ⟨rfl, Rend.no HG.out HKP.out HR.out⟩
end Go.Proofs.YtnbaajplelchjaaGreatDoor
/- The reader: a list of what a function reads. -/
namespace Go.Proofs.YtnbaajplelchjaaGreatDoor
open Go.RowKit

theorem str_info : (Tryz.prog.info? 9).map (fun i => (i.zero, i.size, i.bytes)) = some (some (.string .empty), 1, 16) := by kernel_rfl
def bs (x : List UInt8) : ByteArray := ⟨x.toArray⟩
/-- texts in memory of the call's own -/
def vTexts (base : Nat) (L : List (List UInt8)) (v : Value) (w : World) : Prop := ∃ A' c', v = .slice A' L.length c' ∧ w.ownsRow base 9 1 v L.length (scells (L.map bs))

theorem getfn_ne (F : FuncId) (first cap : Array Value) (w : World) : (binOp .neq 151 (.func (.func F) first cap) .nilFunc).run Tryz.prog w = .ok (.bool true) w := by kernel_rfl

theorem gMany_succ {α : Type} (g : Rg α) (n : Nat) (l : List UInt8) (p : Nat) : gMany g (n + 1) l p = match g l p with
    | .inl (x, q) => (match gMany g n l q with
      | .inl (r, q') => .inl (x :: r, q')
      | .inr e => .inr e)
    | .inr e => .inr e := by
  rw [gMany]
  unfold Rg.bind Rg.map
  rcases g l p with ⟨x, q⟩ | e
  · dsimp only
    rcases gMany g n l q with ⟨r, q'⟩ | e <;> rfl
  · rfl

/-- what is read in all, when ds has been read and r is the rest's -/
def after {α : Type} (ds : List α) (r : (List α × Nat) ⊕ (Int × Nat)) : (List α × Nat) ⊕ (Int × Nat) :=
  match r with
  | .inl (x, q) => .inl (ds ++ x, q)
  | .inr e => .inr e
theorem after_step {α : Type} (g : Rg α) (ds : List α) (n : Nat) (l : List UInt8) (p q : Nat) (x : α) (h : g l p = .inl (x, q)) : after ds (gMany g (n + 1) l p) = after (ds ++ [x]) (gMany g n l q) := by
  rw [gMany_succ, h]
  show after ds (match gMany g n l q with | .inl (r, q') => .inl (x :: r, q') | .inr e => .inr e) = _
  rcases gMany g n l q with ⟨r, q'⟩ | e
  · simp [after]
  · rfl
theorem strs_make0 (w : World) : (Instr.makeSlice 27 (.int .i64 0) (.int .i64 0)).run Tryz.prog w = .ok (.slice (some ⟨w.heap.size, 0, none⟩) 0 0) (w.alloc (.cells #[] 9)) := by kernel_rfl

theorem gCount_bd {most least : Int} {l : List UInt8} {p q n : Nat} (h : gCount most least l p = .inl (n, q)) : n ≤ 2147483647 := by
  unfold gCount at h
  split at h
  · rename_i n' q' hs
    obtain ⟨_, _, _, hb, _⟩ := gSize_inl hs
    split at h
    · cases h
    · simp only [Sum.inl.injEq, Prod.mk.injEq] at h
      omega
  · cases h

set_option maxRecDepth 100000 in
set_option maxHeartbeats 1000000 in
theorem rGet_any (B : Nat → Prop) (R c p : Nat) (A : Option Addr) (l : List UInt8) (most least : Int) (F : FuncId) (first cap : Array Value) (g : Rg (List UInt8)) (w : World) (h : Rdr w B R A c l p) (hent : ∀ (args : Array Value) (W : World), (callFunc F args).run Tryz.prog W = .ok (.enter F args) W)
    (hg : ∀ W q, Kp [R] w W → Rdr W B R A c l q → Calls Tryz.prog F (first.push (.pointer (some ⟨R, 0, none⟩)) ++ cap) W fun e w' => Rend B R c A l vText (g l q) W e w') :
    Calls Tryz.prog 106 #[.pointer (some ⟨R, 0, none⟩), .int .i64 most, .int .i64 least, .func (.func F) first cap] w fun e w' => Rend B R c A l (vTexts w.heap.size) (gGet most least g l p) w e w' := by
  obtain ⟨i0, hi0, hz0, hz1, hz2⟩ := info_parts str_info
  have hC := rCount_any B R c p A l most least (w.alloc (.cells #[] 9)) (h.later ((Below.refl _ _).alloc (Nat.le_refl _) _))
  have H := Lib.hid h
  have HG := Lib.hid hg
  have hne := getfn_ne F first cap
  have hmk := strs_make0
  have hRl := h.lt
  have hnew : ∀ y, w.heap.size ≤ y → ¬ B y := fun y hy => h.new (by omega)
  have HNEW := Lib.hid hnew
  clear hnew
  clear hg h
  rcases hres : gCount most least l p with ⟨n, q0⟩ | ⟨er, q0⟩
  · rw [hres] at hC
    have HC := Lib.hid hC
    have hnb : n ≤ 2147483647 := gCount_bd hres
    have HN : Hid (∀ e, gMany g n l q0 = e → gGet most least g l p = e) := by
      intro e he
      unfold gGet Rg.bind
      rw [hres]
      exact he
    clear hC hres
    go_enter Tryz.func106, Tryz.ntmps106
    go_wp2_with (go_at_call 154; refine (HC.out).mono ?_; rintro e w2 ⟨⟨v, rfl, rfl⟩, hkp, hR⟩; have HKP := Lib.hid hkp; have HR := Lib.hid hR; clear hkp hR)
    go_loopw [9, 16] (fun v i wr => ∃ (k q : Nat) (ds : List (List UInt8)), k ≤ n ∧ i = .int .i64 k ∧ ds.length = k ∧ wr.ownsRow w.heap.size 9 1 v k (scells (ds.map bs)) ∧ Hid (after ds (gMany g (n - k) l q) = gMany g n l q0) ∧ Kp [R] w wr ∧ Rdr wr B R A c l q) (fun _ i _ => n - (intOf i).toNat)
    case atStart =>
      exact ⟨0, q0, [], Nat.zero_le _, rfl, rfl, own_kp (World.ownsRow_made w #[] 0 (Nat.le_refl _) (by decide) rfl) HKP.out (fun x hx e => by simp [Value.ownBlock] at hx e; omega), by show _ = _; rcases gMany g n l q0 with ⟨r, q'⟩ | e <;> rfl, (Kp.alloc _).trans HKP.out, HR.out⟩
    case round =>
      clear HKP HR
      obtain ⟨k, q, ds, hk, rfl, hds, hown, HA, hkp, hR⟩ := hrel
      have HKP := Lib.hid hkp
      have HR := Lib.hid hR
      have HD := Lib.hid hds
      have hsz := hkp.size
      have hget := HG.out wr q hkp hR
      have HOWN := Lib.hid hown
      clear hkp hR hown hds
      by_cases hlt : k < n
      · obtain ⟨m, hm⟩ : ∃ m, n - k = m + 1 := ⟨n - k - 1, by omega⟩
        rw [hm] at HA
        rcases hgr : g l q with ⟨x, q1⟩ | ⟨er, q1⟩
        · rw [hgr] at hget
          have HGET := Lib.hid hget
          have HA2 : Hid (after (ds ++ [x]) (gMany g m l q1) = gMany g n l q0) := by
            show _ = _
            rw [← HA.out, after_step g ds m l q q1 x hgr]
          clear hget hgr HA
          go_wp2_with (first
            | (with_reducible refine (HGET.out).mono ?_
               rintro e w3 ⟨⟨v3, rfl, rfl⟩, hk3, hR3⟩
               have hsz3 := hk3.size
               have HK3 := Lib.hid (HKP.out.trans hk3)
               have hown3 := own_kp HOWN.out hk3 (fun y hy e => by have := (HOWN.out.lt y e).1; simp at hy; omega)
               have HOWN3 := Lib.hid hown3
               have HR3 := Lib.hid hR3
               clear hk3 hR3 hown3)
            | (at_builtin
               refine wpList_append_any _ rfl (.tmp 23) (.tmp 25) _ rfl w.heap.size 9 i0 _ 1 16 Tryz.underlying27 hi0 hz0 hz1 hz2 rfl (by decide) u9 k (scells (ds.map bs)) rfl (HOWN3.out.alloc _) (w3.heap.size + 1) (some ⟨w3.heap.size, 0, none⟩) 1 1 [.string ⟨x.toArray⟩] rfl (reads_lit w3 9 [_]) (by simp [Value.oneCell']) (by simp only [maxLen]; omega) (by omega) (by simp; omega) ?_
               intro v1 w4 hown4 hg4 hat4
               have HK4 := Lib.hid (HK3.out.to ((Kp.alloc (X := []) _).to (Kp.of_grown hg4) (fun _ h => by cases h) (fun y hy hl => hy)) (fun y hy _ => hy) (fun y hy hl => by have := (HOWN3.out.lt y (by simpa using hy)).1; omega))
               have HR4 := Lib.hid ((HR3.out.later ((Below.refl _ _).alloc (Nat.le_refl _) _)).kp (Kp.of_grown hg4) (fun hx => by have := (HOWN3.out.lt R (by simpa using hx)).1; omega) (fun y hy => HNEW.out y (HOWN3.out.lt y (by simpa using hy)).1))
               have HOWN4 := Lib.hid hown4
               clear hat4 hg4 hown4))
          go_roundw
          case rel =>
            refine ⟨k + 1, q1, ds ++ [x], by omega, by go_num, by rw [List.length_append, HD.out]; rfl, ?_, ?_, HK4.out, HR4.out⟩
            · rw [List.map_append, scells_append]; exact HOWN4.out
            · rw [show n - (k + 1) = m by omega]; exact HA2.out
          case measure => simp [intOf]; omega
        · rw [hgr] at hget
          have HGET := Lib.hid hget
          have hga : gGet most least g l p = .inr (er, q1) := by
            refine HN.out _ ?_
            rw [← HA.out, gMany_succ, hgr]
            rfl
          have HGA := Lib.hid hga
          clear hget hgr hga HA
          go_wp2_with (with_reducible refine (HGET.out).mono ?_
                       rintro e w3 ⟨rfl, hk3, hR3⟩
                       have HK3 := Lib.hid (HKP.out.trans hk3)
                       have HR3 := Lib.hid hR3
                       clear hk3 hR3)
          exact ⟨rfl, Rend.no HGA.out HK3.out HR3.out⟩
      · have hkn : k = n := by omega
        have hga : gGet most least g l p = .inl (ds, q) := by
          refine HN.out _ ?_
          rw [← HA.out, show n - k = 0 by omega]
          show (Sum.inl (ds ++ [], q) : (List (List UInt8) × Nat) ⊕ (Int × Nat)) = _
          rw [List.append_nil]
        have HGA := Lib.hid hga
        obtain ⟨A', c', rfl⟩ := slice_form HOWN.out
        clear hkn hga hget
        go_wp2
        go_ret
        exact Rend.yes HGA.out ⟨A', c', by rw [HD.out]; rfl, by rw [HD.out]; exact HOWN.out⟩ HKP.out HR.out
  · rw [hres] at hC
    have HC := Lib.hid hC
    have hga : gGet most least g l p = .inr (er, q0) := by
      unfold gGet Rg.bind
      rw [hres]
    have HGA := Lib.hid hga
    clear hC hres hga
    go_enter Tryz.func106, Tryz.ntmps106
    go_wp2_with (go_at_call 154; refine (HC.out).mono ?_; rintro e w2 ⟨rfl, hkp, hR⟩; have HKP := Lib.hid hkp; have HR := Lib.hid hR; clear hkp hR)
    exact ⟨rfl, Rend.no HGA.out ((Kp.alloc _).trans HKP.out) HR.out⟩
end Go.Proofs.YtnbaajplelchjaaGreatDoor
/- Read: the deferred function. -/
namespace Go.Proofs.YtnbaajplelchjaaGreatDoor
open Go.RowKit

set_option maxRecDepth 100000 in
set_option maxHeartbeats 1000000 in
theorem catch_idle (R v0 v1 v2 : Nat) (A : Option Addr) (n c : Nat) (p : Int) (w : World) (hb : Blk w R 196 #[.slice A n c, .int .i64 p, .bool false]) (hv : w.cell? ⟨v0, 0, none⟩ = some (.pointer (some ⟨R, 0, none⟩))) (hne : v0 ≠ R) :
    CallsD Tryz.prog 149 #[.pointer (some ⟨v0, 0, none⟩), .pointer (some ⟨v1, 0, none⟩), .pointer (some ⟨v2, 0, none⟩)] .returning w fun e u' w' =>
      e = .returned (.tuple #[]) ∧ u' = .returning ∧ w' = (w.setCell ⟨R, 2, none⟩ (.bool true)).setCell ⟨R, 0, none⟩ (.slice none 0 0) := by
  have c0 : w.cell? ⟨R, 0, none⟩ = some (.slice A n c) := by rw [hb.cell 0]; rfl
  have c2 : w.cell? ⟨R, 2, none⟩ = some (.bool false) := by rw [hb.cell 2]; rfl
  have f0 := hb.frozen 0
  have f2 := hb.frozen 2
  have hv1 : (w.setCell ⟨R, 2, none⟩ (.bool true)).cell? ⟨v0, 0, none⟩ = some (.pointer (some ⟨R, 0, none⟩)) := by
    rw [World.cell?_setCell_other _ _ _ _ (by simp [hne])]; exact hv
  clear hb
  refine callsD_of_wpS Tryz.func149 rfl fun c₀ cs hu => ?_
  simp only [Tryz.ntmps149, List.size_toArray, List.length_cons, List.length_nil, Nat.reduceAdd, Nat.reduceSub, Array.replicate_succ, Array.replicate_zero, List.push_toArray, List.append_toArray, List.nil_append, List.cons_append]
  apply wpS_seq
  apply wpS_of_wp
  go_wp2
  simp only [Exit.thenS]
  apply wpS_seq
  apply wpS_of_wp
  go_wp2
  simp only [Exit.thenS]
  apply wpS_seq
  apply wpS_region
  simp [wpOpsS, go_sem, recoverD, hu, Exit.thenS]
  generalize hw2 : (w.setCell ⟨R, 2, none⟩ (.bool true)).setCell ⟨R, 0, none⟩ (.slice none 0 0) = w2
  clear hw2 c0 c2 f0 f2 hv hv1 hne
  apply wpS_of_wp
  go_wp2
  cases c₀
  simp only at hu
  subst hu
  exact ⟨rfl, .returning, rfl, _, results_none rfl _ _ _, rfl, rfl, rfl⟩

theorem rdr_info : (Tryz.prog.info? 196).map (fun i => (i.zero, i.size, i.bytes)) = some (some (.agg #[.slice none 0 0, .int .i64 0, .bool false]), 3, 40) := by kernel_rfl
theorem run_neq_rptr (w : World) (R : Nat) : (binOp .neq 93 (.pointer (some ⟨R, 0, none⟩)) (.pointer (some ⟨R, 0, none⟩))).run Tryz.prog w = .ok (.bool false) w := by
  obtain ⟨j, hj, _⟩ := info_parts rdr_info
  exact Lib.run_neq_ptr_same w ⟨R, 0, none⟩ Tryz.underlying93 hj

set_option maxRecDepth 100000 in
set_option maxHeartbeats 1000000 in
theorem catch_fail (R v0 v1 v2 : Nat) (A : Option Addr) (n c : Nat) (p er z0 z1 : Int) (w : World) (hb : Blk w R 196 #[.slice A n c, .int .i64 p, .bool false]) (hv : w.cell? ⟨v0, 0, none⟩ = some (.pointer (some ⟨R, 0, none⟩))) (hne : v0 ≠ R)
    (hb1 : Blk w v1 3 #[.int .i64 z0]) (hb2 : Blk w v2 37 #[.int .i64 z1]) (d1 : v1 ≠ R) (d2 : v2 ≠ R) (d3 : v1 ≠ v0) (d4 : v2 ≠ v0) (d5 : v1 ≠ v2) (hv0 : v0 < w.heap.size) :
    CallsD Tryz.prog 149 #[.pointer (some ⟨v0, 0, none⟩), .pointer (some ⟨v1, 0, none⟩), .pointer (some ⟨v2, 0, none⟩)] (.panicking [{ v := .iface 147 (.agg #[.pointer (some ⟨R, 0, none⟩), .int .i64 er]), recovered := false }]) w fun e u' w' =>
      e = .returned (.tuple #[]) ∧ u' = .panicking [{ v := .iface 147 (.agg #[.pointer (some ⟨R, 0, none⟩), .int .i64 er]), recovered := true }] ∧ Kp [R, v1, v2] w w' ∧ Blk w' R 196 #[.slice none 0 0, .int .i64 p, .bool true] ∧ w'.cell? ⟨v1, 0, none⟩ = some (.int .i64 p) ∧ w'.cell? ⟨v2, 0, none⟩ = some (.int .i64 er) := by
  have c0 : w.cell? ⟨R, 0, none⟩ = some (.slice A n c) := by rw [hb.cell 0]; rfl
  have c2 : w.cell? ⟨R, 2, none⟩ = some (.bool false) := by rw [hb.cell 2]; rfl
  have f0 := hb.frozen 0
  have f2 := hb.frozen 2
  have hv1 : (w.setCell ⟨R, 2, none⟩ (.bool true)).cell? ⟨v0, 0, none⟩ = some (.pointer (some ⟨R, 0, none⟩)) := by
    rw [World.cell?_setCell_other _ _ _ _ (by simp [hne])]; exact hv
  have B2 : Blk ((w.setCell ⟨R, 2, none⟩ (.bool true)).setCell ⟨R, 0, none⟩ (.slice none 0 0)) R 196 #[.slice none 0 0, .int .i64 p, .bool true] := (hb.set_ 2 _).set_ 0 _
  have K2 : Kp [R] w ((w.setCell ⟨R, 2, none⟩ (.bool true)).setCell ⟨R, 0, none⟩ (.slice none 0 0)) := (Kp.setCell ⟨R, 2, none⟩ _).to (Kp.setCell ⟨R, 0, none⟩ _) (fun _ h _ => h) (fun _ h _ => h)
  have htA : ∀ W : World, (Instr.typeAssert (.iface 147 (.agg #[.pointer (some ⟨R, 0, none⟩), .int .i64 er])) 20 147 true).run Tryz.prog W = .ok (.tuple #[.agg #[.pointer (some ⟨R, 0, none⟩), .int .i64 er], .bool true]) W := fun _ => by kernel_rfl
  have hpn : ∀ W : World, (binOp .neq 93 (.pointer (some ⟨R, 0, none⟩)) (.pointer (some ⟨R, 0, none⟩))).run Tryz.prog W = .ok (.bool false) W := fun W => run_neq_rptr W R
  clear hb
  refine callsD_of_wpS Tryz.func149 rfl fun c₀ cs hu => ?_
  simp only [Tryz.ntmps149, List.size_toArray, List.length_cons, List.length_nil, Nat.reduceAdd, Nat.reduceSub, Array.replicate_succ, Array.replicate_zero, List.push_toArray, List.append_toArray, List.nil_append, List.cons_append]
  apply wpS_seq
  apply wpS_of_wp
  go_wp2
  simp only [Exit.thenS]
  apply wpS_seq
  apply wpS_of_wp
  go_wp2
  simp only [Exit.thenS]
  apply wpS_seq
  apply wpS_region
  simp [wpOpsS, go_sem, recoverD, hu, Exit.thenS]
  generalize hw2 : (w.setCell ⟨R, 2, none⟩ (.bool true)).setCell ⟨R, 0, none⟩ (.slice none 0 0) = w2 at B2 K2 ⊢
  have b1 : Blk w2 v1 3 #[.int .i64 z0] := hb1.kp K2 (by simp [d1])
  have b2 : Blk w2 v2 37 #[.int .i64 z1] := hb2.kp K2 (by simp [d2])
  have hv2 : w2.cell? ⟨v0, 0, none⟩ = some (.pointer (some ⟨R, 0, none⟩)) := by rw [K2.cell (by simpa using hv0) (by simp [hne])]; exact hv
  have hz := K2.size
  have l0 : v0 < w2.heap.size := by omega
  have l1 := b1.lt
  have l2 := b2.lt
  have lR := B2.lt
  obtain ⟨w3, hw3⟩ : ∃ w3, w2.alloc (.cells #[.pointer (some ⟨R, 0, none⟩), .int .i64 er] 147) = w3 := ⟨_, rfl⟩
  have K3 : Kp [] w2 w3 := hw3 ▸ Kp.alloc _
  have b13 := b1.kp K3 (by simp)
  have b23 := b2.kp K3 (by simp)
  have bR3 := B2.kp K3 (by simp)
  have bN3 : Blk w3 w2.heap.size 147 #[.pointer (some ⟨R, 0, none⟩), .int .i64 er] := hw3 ▸ Blk.new _ _ _
  have cv3 : w3.cell? ⟨v0, 0, none⟩ = some (.pointer (some ⟨R, 0, none⟩)) := by rw [K3.cell (by simpa using l0) (by simp)]; exact hv2
  have cR3 : w3.cell? ⟨R, 1, none⟩ = some (.int .i64 p) := by rw [bR3.cell 1]; rfl
  have cN0 : w3.cell? ⟨w2.heap.size, 0, none⟩ = some (.pointer (some ⟨R, 0, none⟩)) := by rw [bN3.cell 0]; rfl
  have cN1 : w3.cell? ⟨w2.heap.size, 1, none⟩ = some (.int .i64 er) := by rw [bN3.cell 1]; rfl
  have c13 : w3.cell? ⟨v1, 0, none⟩ = some (.int .i64 z0) := by rw [b13.cell 0]; rfl
  have c23 : w3.cell? ⟨v2, 0, none⟩ = some (.int .i64 z1) := by rw [b23.cell 0]; rfl
  have f13 := b13.frozen 0
  have f23 := b23.frozen 0
  have n1 : ¬ v1 = w2.heap.size := by omega
  have n2 : ¬ v2 = w2.heap.size := by omega
  have K1 : Kp [R] w w3 := K2.to K3 (fun _ h _ => h) (fun _ h => by cases h)
  have HK := Lib.hid K1
  have HB13 := Lib.hid b13
  have HB23 := Lib.hid b23
  have HBR := Lib.hid bR3
  have hmem : ∀ x, x ∈ [R, v1, v2] ↔ x = R ∨ x = v1 ∨ x = v2 := by intro x; simp
  have HM := Lib.hid hmem
  clear K1 K2 K3 B2 b1 b2 b13 b23 bR3 bN3 hb1 hb2 hv hv1 hv2 c0 c2 f0 f2 hw2 hmem
  apply wpS_of_wp
  go_wp2
  go_region
  all_goals (
    refine ⟨rfl, _, rfl, _, results_none rfl _ _ _, rfl, rfl, ?_⟩
    have K1 := HK.out.to (Kp.setCell ⟨v1, 0, none⟩ (.int .i64 p)) (Z := [R, v1, v2]) (fun x hx _ => by simp at hx; simp [hx]) (fun x hx _ => by simp at hx; simp [hx])
    have K2 := K1.to (Kp.setCell ⟨v2, 0, none⟩ (.int .i64 er)) (Z := [R, v1, v2]) (fun x hx _ => hx) (fun x hx _ => by simp at hx; simp [hx])
    refine ⟨K2.trans Kp.drew, ((HBR.out.far (p := ⟨v1, 0, none⟩) (by simpa using d1.symm) _).far (p := ⟨v2, 0, none⟩) (by simpa using d2.symm) _).drew, ?_, ?_⟩
    · show World.cell? _ _ = _
      rw [World.cell?_drew, World.cell?_setCell_other _ _ _ _ (by simp [d5.symm]), World.cell?_setCell_same _ _ _ c13]
    · rw [World.cell?_drew, World.cell?_setCell_same _ _ _ (show World.cell? _ _ = some (.int .i64 z1) by rw [World.cell?_setCell_other _ _ _ _ (by simp [d5])]; exact c23)])
end Go.Proofs.YtnbaajplelchjaaGreatDoor
/- Read: what do reads; All. -/
namespace Go.Proofs.YtnbaajplelchjaaGreatDoor
open Go.RowKit

theorem do_ne (F : FuncId) (first cap : Array Value) (w : World) : (binOp .eql 98 (.func (.func F) first cap) .nilFunc).run Tryz.prog w = .ok (.bool false) w := by kernel_rfl

/-- the place and the error that Read hands back -/
def rAt : Nat ⊕ (Int × Nat) → Nat
  | .inl q => q
  | .inr (_, q) => q
def rE : Nat ⊕ (Int × Nat) → Int
  | .inl _ => 0
  | .inr (e, _) => e

/-- behind the function that Read calls: it has returned, or given up by its reader; what it says of the world; it has turned no block but those of X -/
def Did (B : Nat → Prop) (R c : Nat) (A : Option Addr) (l : List UInt8) (X : List Nat) (P : World → Prop) (r : Nat ⊕ (Int × Nat)) (W : World) (e : Ending) (W' : World) : Prop :=
  match r with
  | .inl q => (∃ v, e = .returned v) ∧ P W' ∧ Kp (R :: X) W W' ∧ Rdr W' B R A c l q
  | .inr (er, q) => e = .panicked (fails R er) ∧ P W' ∧ Kp (R :: X) W W' ∧ Rdr W' B R A c l q

set_option maxRecDepth 100000 in
set_option maxHeartbeats 1000000 in
theorem read_any (B : Nat → Prop) (c n : Nat) (A : Option Addr) (l : List UInt8) (F : FuncId) (first cap : Array Value) (X : List Nat) (P : World → Prop) (r : Nat ⊕ (Int × Nat)) (w : World)
    (hr : Reads w w.heap.size 1 A n (bcells l)) (hnc : n ≤ c) (hn : n ≤ 140737488355328) (hnil : A = none → c = 0) (hB : ∀ x, B x → x < w.heap.size) (hT : Lib.Utf8Tabs 0 1 w) (hg : B 0 ∧ B 1) (hmine : 0 < n → ∀ ad, A = some ad → B ad.block)
    (hX : ∀ x ∈ X, x < w.heap.size) (hent : ∀ (args : Array Value) (W : World), (callFunc F args).run Tryz.prog W = .ok (.enter F args) W)
    (hdo : ∀ W, Kp [] w W → W.heap.size = w.heap.size + 4 → Rdr W B (w.heap.size + 1 + 1) A c l 0 → Calls Tryz.prog F (first.push (.pointer (some ⟨w.heap.size + 1 + 1, 0, none⟩)) ++ cap) W fun e W' => Did B (w.heap.size + 1 + 1) c A l X P r W e W') :
    Calls Tryz.prog 99 #[.slice A n c, .func (.func F) first cap] w fun e w' => e = .returned (.tuple #[.int .i64 (rAt r), .int .i64 (rE r)]) ∧ Kp X w w' ∧
      (∃ W', P W' ∧ Kp [w.heap.size, w.heap.size + 1, w.heap.size + 1 + 1] W' w' ∧ Rdr W' B (w.heap.size + 1 + 1) A c l (rAt r) ∧ w.heap.size + 4 ≤ W'.heap.size) ∧ Blk w' (w.heap.size + 1 + 1) 196 #[.slice none 0 0, .int .i64 (rAt r), .bool true] := by
  have hl : l.length = n := by have := hr.1; rw [bcells_length] at this; omega
  subst hl
  have hmf : ∀ (fn : Fn) (first cap : Array Value) (w : World), (Instr.makeFunc fn first cap).run Tryz.prog w = .ok (.func fn first cap) w := fun _ _ _ _ => rfl
  have hne := do_ne F first cap
  obtain ⟨w4, hw4⟩ : ∃ w4, (((w.alloc (.cells #[.int .i64 0] 3)).alloc (.cells #[.int .i64 0] 37)).alloc (.cells #[.slice A l.length c, .int .i64 0, .bool false] 196)).alloc (.cells #[.pointer (some ⟨w.heap.size + 1 + 1, 0, none⟩)] 93) = w4 := ⟨_, rfl⟩
  have hk4 : Kp [] w w4 := by
    rw [← hw4]
    exact (((Kp.alloc _).trans (Kp.alloc _)).trans (Kp.alloc _)).trans (Kp.alloc _)
  have hz4 : w4.heap.size = w.heap.size + 4 := by rw [← hw4]; simp
  have b0 : Blk w4 w.heap.size 3 #[.int .i64 0] := by rw [← hw4]; exact (((Blk.new' rfl).alloc _).alloc _).alloc _
  have b1 : Blk w4 (w.heap.size + 1) 37 #[.int .i64 0] := by rw [← hw4]; exact ((Blk.new' (by simp)).alloc _).alloc _
  have b2 : Blk w4 (w.heap.size + 1 + 1) 196 #[.slice A l.length c, .int .i64 0, .bool false] := by rw [← hw4]; exact (Blk.new' (by simp)).alloc _
  have b3 : Blk w4 (w.heap.size + 1 + 1 + 1) 93 #[.pointer (some ⟨w.heap.size + 1 + 1, 0, none⟩)] := by rw [← hw4]; exact Blk.new' (by simp)
  have rd4 : Rdr w4 B (w.heap.size + 1 + 1) A c l 0 := ⟨b2, reads_off hr hk4 (fun _ _ _ h => by cases h), hnc, Nat.zero_le _, (fun x hx => by have := hB x hx; omega), hn, hnil, hT.kp hk4 ⟨(fun h => by cases h), (fun h => by cases h)⟩ ⟨hB _ hg.1, hB _ hg.2⟩, hg, ⟨by have := hB _ hg.1; omega, by have := hB _ hg.2; omega⟩, hmine⟩
  have HDO := Lib.hid (hdo w4 hk4 hz4 rd4)
  have c3 : w4.cell? ⟨w.heap.size + 1 + 1 + 1, 0, none⟩ = some (.pointer (some ⟨w.heap.size + 1 + 1, 0, none⟩)) := by rw [b3.cell 0]; rfl
  have HB0 := Lib.hid b0
  have HB1 := Lib.hid b1
  have HB3 := Lib.hid b3
  have HK4 := Lib.hid hk4
  have HZ4 := Lib.hid hz4
  have HX := Lib.hid (show ∀ x, x ∈ (w.heap.size + 1 + 1) :: X → x < w.heap.size ∨ x = w.heap.size + 1 + 1 from fun x hx => by
    rcases List.mem_cons.1 hx with h | h
    · exact .inr h
    · exact .inl (hX x h))
  clear b0 b1 b2 b3 hk4 hz4 rd4 hdo hX hT hr hnc hn hnil hg hB hmine
  rcases r with q | ⟨er, q⟩
  · go_enter_defers Tryz.func99, Tryz.ntmps99
    go_wp2_with (with_reducible refine (HDO.out).mono ?_
                 rintro e W' ⟨⟨v, rfl⟩, hp, hk, hR⟩
                 have B0 : Blk W' w.heap.size 3 #[.int .i64 0] := HB0.out.kp hk (fun hx => by have := HX.out _ hx; omega)
                 have B1 : Blk W' (w.heap.size + 1) 37 #[.int .i64 0] := HB1.out.kp hk (fun hx => by have := HX.out _ hx; omega)
                 have B3 : Blk W' (w.heap.size + 1 + 1 + 1) 93 #[.pointer (some ⟨w.heap.size + 1 + 1, 0, none⟩)] := HB3.out.kp hk (fun hx => by have := HX.out _ hx; omega)
                 have c3' : W'.cell? ⟨w.heap.size + 1 + 1 + 1, 0, none⟩ = some (.pointer (some ⟨w.heap.size + 1 + 1, 0, none⟩)) := (by rw [B3.cell 0]; rfl)
                 have c0' : W'.cell? ⟨w.heap.size, 0, none⟩ = some (.int .i64 0) := (by rw [B0.cell 0]; rfl)
                 have c1' : W'.cell? ⟨w.heap.size + 1, 0, none⟩ = some (.int .i64 0) := (by rw [B1.cell 0]; rfl)
                 have f0' := B0.frozen 0
                 have f1' := B1.frozen 0
                 obtain ⟨_, cR1, _, _⟩ := hR.cells
                 have HP := Lib.hid hp
                 have HKW := Lib.hid hk
                 have HR := Lib.hid hR
                 have HB0' := Lib.hid B0
                 have HB1' := Lib.hid B1
                 have HB3' := Lib.hid B3
                 clear hp hk hR B0 B1 B3)
    obtain ⟨w5, hw5⟩ : ∃ w5, (W'.setCell ⟨w.heap.size, 0, none⟩ (.int .i64 q)).setCell ⟨w.heap.size + 1, 0, none⟩ (.int .i64 0) = w5 := ⟨_, rfl⟩
    have K5 : Kp [w.heap.size, w.heap.size + 1] W' w5 := by
      rw [← hw5]
      exact (Kp.setCell ⟨w.heap.size, 0, none⟩ _).to (Kp.setCell ⟨w.heap.size + 1, 0, none⟩ _) (fun x hx _ => by simp at hx; simp [hx]) (fun x hx _ => by simp at hx; simp [hx])
    have D0 : Blk w5 w.heap.size 3 #[.int .i64 q] := by rw [← hw5]; exact (HB0'.out.set_ 0 _).far (by simp) _
    have D1 : Blk w5 (w.heap.size + 1) 37 #[.int .i64 0] := by rw [← hw5]; exact (HB1'.out.far (by simp) _).set_ 0 _
    have D3 := HB3'.out.kp K5 (by simp; omega)
    have R5 := HR.out.blk.kp K5 (by simp; omega)
    rw [hw5]
    refine leaves_cons (f := 149) (args := #[.pointer (some ⟨w.heap.size + 1 + 1 + 1, 0, none⟩), .pointer (some ⟨w.heap.size, 0, none⟩), .pointer (some ⟨w.heap.size + 1, 0, none⟩)]) (by simp) (by simp [go_sem]) ?_
    refine (catch_idle (w.heap.size + 1 + 1) (w.heap.size + 1 + 1 + 1) w.heap.size (w.heap.size + 1) A l.length c q w5 R5 (by rw [D3.cell 0]; rfl) (by omega)).mono ?_
    rintro e u' w'' ⟨rfl, rfl, hw6⟩
    have K6 : Kp [w.heap.size + 1 + 1] w5 w'' := by
      rw [hw6]
      exact (Kp.setCell ⟨w.heap.size + 1 + 1, 2, none⟩ _).to (Kp.setCell ⟨w.heap.size + 1 + 1, 0, none⟩ _) (fun x hx _ => hx) (fun x hx _ => hx)
    have R6 : Blk w'' (w.heap.size + 1 + 1) 196 #[.slice none 0 0, .int .i64 q, .bool true] := by rw [hw6]; exact (R5.set_ 2 _).set_ 0 _
    have e0 : w''.cell? ⟨w.heap.size, 0, none⟩ = some (.int .i64 q) := by rw [(D0.kp K6 (by simp; omega)).cell 0]; rfl
    have e1 : w''.cell? ⟨w.heap.size + 1, 0, none⟩ = some (.int .i64 0) := by rw [(D1.kp K6 (by simp)).cell 0]; rfl
    have KA : Kp [w.heap.size, w.heap.size + 1, w.heap.size + 1 + 1] W' w'' := K5.to K6 (fun x hx _ => by simp at hx; rcases hx with rfl | rfl <;> simp) (fun x hx _ => by simp at hx; simp [hx])
    have KX : Kp X w w'' := (HK4.out.to HKW.out (Z := X) (fun _ h => by cases h) (fun x hx hl => by
      rcases List.mem_cons.1 hx with h | h
      · omega
      · exact h)).to KA (fun _ h _ => h) (fun x hx hl => by simp at hx; omega)
    clear hw6 hw5
    exact ⟨_, by simp [settle, results, Tryz.results99, go_sem, e0, e1, rAt, rE], rfl, KX, ⟨W', HP.out, KA, HR.out, by have := HKW.out.size; have := HZ4.out; omega⟩, R6⟩
  · go_enter_defers Tryz.func99, Tryz.ntmps99
    go_wp2_with (with_reducible refine (HDO.out).mono ?_
                 rintro e W' ⟨rfl, hp, hk, hR⟩
                 have HP := Lib.hid hp
                 have HKW := Lib.hid hk
                 have HR := Lib.hid hR
                 clear hp hk hR)
    have hk := HKW.out
    have B0 : Blk W' w.heap.size 3 #[.int .i64 0] := HB0.out.kp hk (fun hx => by have := HX.out _ hx; omega)
    have B1 : Blk W' (w.heap.size + 1) 37 #[.int .i64 0] := HB1.out.kp hk (fun hx => by have := HX.out _ hx; omega)
    have B3 : Blk W' (w.heap.size + 1 + 1 + 1) 93 #[.pointer (some ⟨w.heap.size + 1 + 1, 0, none⟩)] := HB3.out.kp hk (fun hx => by have := HX.out _ hx; omega)
    refine leaves_cons (f := 149) (args := #[.pointer (some ⟨w.heap.size + 1 + 1 + 1, 0, none⟩), .pointer (some ⟨w.heap.size, 0, none⟩), .pointer (some ⟨w.heap.size + 1, 0, none⟩)]) (by simp) (by simp [go_sem]) ?_
    refine (catch_fail (w.heap.size + 1 + 1) (w.heap.size + 1 + 1 + 1) w.heap.size (w.heap.size + 1) A l.length c q er 0 0 W' HR.out.blk (by rw [B3.cell 0]; rfl) (by omega) B0 B1 (by omega) (by omega) (by omega) (by omega) (by omega) B3.lt).mono ?_
    rintro e u' w'' ⟨rfl, rfl, KA', R6, e0, e1⟩
    have KA : Kp [w.heap.size, w.heap.size + 1, w.heap.size + 1 + 1] W' w'' := KA'.mono (fun x hx _ => by simp at hx ⊢; omega)
    have KX : Kp X w w'' := (HK4.out.to HKW.out (Z := X) (fun _ h => by cases h) (fun x hx hl => by
      rcases List.mem_cons.1 hx with h | h
      · omega
      · exact h)).to KA (fun _ h _ => h) (fun x hx hl => by simp at hx; omega)
    clear KA'
    exact ⟨_, by simp [settle, results, Tryz.results99, go_sem, e0, e1, rAt, rE], rfl, KX, ⟨W', HP.out, KA, HR.out, by have := HKW.out.size; have := HZ4.out; omega⟩, R6⟩

/-- what All makes of it -/
def rAllE (l : List UInt8) (r : Nat ⊕ (Int × Nat)) : Int := if rE r = 0 ∧ rAt r < l.length then 21 else rE r

set_option maxRecDepth 100000 in
set_option maxHeartbeats 1000000 in
theorem all_any (B : Nat → Prop) (c n : Nat) (A : Option Addr) (l : List UInt8) (F : FuncId) (first cap : Array Value) (X : List Nat) (P : World → Prop) (r : Nat ⊕ (Int × Nat)) (w : World)
    (hr : Reads w w.heap.size 1 A n (bcells l)) (hnc : n ≤ c) (hn : n ≤ 140737488355328) (hnil : A = none → c = 0) (hB : ∀ x, B x → x < w.heap.size) (hT : Lib.Utf8Tabs 0 1 w) (hg : B 0 ∧ B 1) (hmine : 0 < n → ∀ ad, A = some ad → B ad.block)
    (hX : ∀ x ∈ X, x < w.heap.size) (hent : ∀ (args : Array Value) (W : World), (callFunc F args).run Tryz.prog W = .ok (.enter F args) W)
    (hdo : ∀ W, Kp [] w W → W.heap.size = w.heap.size + 4 → Rdr W B (w.heap.size + 1 + 1) A c l 0 → Calls Tryz.prog F (first.push (.pointer (some ⟨w.heap.size + 1 + 1, 0, none⟩)) ++ cap) W fun e W' => Did B (w.heap.size + 1 + 1) c A l X P r W e W') :
    Calls Tryz.prog 47 #[.slice A n c, .func (.func F) first cap] w fun e w' => e = .returned (.tuple #[.int .i64 (rAt r), .int .i64 (rAllE l r)]) ∧ Kp X w w' ∧
      (∃ W', P W' ∧ Kp [w.heap.size, w.heap.size + 1, w.heap.size + 1 + 1] W' w' ∧ Rdr W' B (w.heap.size + 1 + 1) A c l (rAt r) ∧ w.heap.size + 4 ≤ W'.heap.size) ∧ Blk w' (w.heap.size + 1 + 1) 196 #[.slice none 0 0, .int .i64 (rAt r), .bool true] := by
  have hl : l.length = n := by have := hr.1; rw [bcells_length] at this; omega
  subst hl
  have HR := Lib.hid (read_any B c l.length A l F first cap X P r w hr hnc hn hnil hB hT hg hmine hX hent hdo)
  clear hr hnc hnil hB hT hg hmine hX hent hdo
  generalize hE : rE r = er at HR
  generalize hA : rAt r = q at HR
  have hAll : rAllE l r = if er = 0 ∧ q < l.length then 21 else er := by unfold rAllE; rw [hE, hA]
  rw [hAll]
  clear hAll hE hA
  by_cases h0 : er = 0
  · by_cases h1 : q < l.length
    · rw [if_pos ⟨h0, h1⟩]
      have h0b : (er == 0) = true := by simp [h0]
      clear h0
      go_enter Tryz.func47, Tryz.ntmps47
      go_wp2_with (go_at_call 99; refine (HR.out).mono ?_; rintro e w1 ⟨rfl, hq⟩; have HQ := Lib.hid hq; clear hq)
      go_ret2
      exact ⟨rfl, HQ.out⟩
    · rw [if_neg (fun h => h1 h.2)]
      have h0b : (er == 0) = true := by simp [h0]
      clear h0
      go_enter Tryz.func47, Tryz.ntmps47
      go_wp2_with (go_at_call 99; refine (HR.out).mono ?_; rintro e w1 ⟨rfl, hq⟩; have HQ := Lib.hid hq; clear hq)
      go_ret2
      exact ⟨rfl, HQ.out⟩
  · rw [if_neg (fun h => h0 h.1)]
    have h0b : (er == 0) = false := by simp [h0]
    clear h0
    go_enter Tryz.func47, Tryz.ntmps47
    go_wp2_with (go_at_call 99; refine (HR.out).mono ?_; rintro e w1 ⟨rfl, hq⟩; have HQ := Lib.hid hq; clear hq)
    go_ret2
    exact ⟨rfl, HQ.out⟩
end Go.Proofs.YtnbaajplelchjaaGreatDoor
