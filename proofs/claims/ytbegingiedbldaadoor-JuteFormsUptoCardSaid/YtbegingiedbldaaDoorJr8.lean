/- The reader: a list of what a function reads. -/
import Derived.Test.YtbegingiedbldaaDoorJr7
namespace Go.Proofs.YtbegingiedbldaaDoor
open Go.RowKit

theorem str_info : (Tryd.prog.info? 9).map (fun i => (i.zero, i.size, i.bytes)) = some (some (.string .empty), 1, 16) := by kernel_rfl
def bs (x : List UInt8) : ByteArray := ⟨x.toArray⟩
/-- texts in memory of the call's own -/
def vTexts (base : Nat) (L : List (List UInt8)) (v : Value) (w : World) : Prop := ∃ A' c', v = .slice A' L.length c' ∧ w.ownsRow base 9 1 v L.length (scells (L.map bs))

theorem getfn_ne (F : FuncId) (first cap : Array Value) (w : World) : (binOp .neq 86 (.func (.func F) first cap) .nilFunc).run Tryd.prog w = .ok (.bool true) w := by kernel_rfl

theorem gMany_succ {α : Type} (g : Rg α) (n : Nat) (l : List UInt8) (p : Nat) : gMany g (n + 1) l p = match g l p with
    | .inl (x, q) => (match gMany g n l q with
      | .inl (r, q') => .inl (x :: r, q')
      | .inr e => .inr e)
    | .inr e => .inr e := by
  rw [gMany]
  unfold Rg.bind Rg.map
  rcases g l p with ⟨x, q⟩ | e
  · dsimp only
    rcases gMany g n l q with ⟨r, q'⟩ | e <;> rfl
  · rfl

/-- what is read in all, when ds has been read and r is the rest's -/
def after {α : Type} (ds : List α) (r : (List α × Nat) ⊕ (Int × Nat)) : (List α × Nat) ⊕ (Int × Nat) :=
  match r with
  | .inl (x, q) => .inl (ds ++ x, q)
  | .inr e => .inr e
theorem after_step {α : Type} (g : Rg α) (ds : List α) (n : Nat) (l : List UInt8) (p q : Nat) (x : α) (h : g l p = .inl (x, q)) : after ds (gMany g (n + 1) l p) = after (ds ++ [x]) (gMany g n l q) := by
  rw [gMany_succ, h]
  show after ds (match gMany g n l q with | .inl (r, q') => .inl (x :: r, q') | .inr e => .inr e) = _
  rcases gMany g n l q with ⟨r, q'⟩ | e
  · simp [after]
  · rfl
theorem strs_make0 (w : World) : (Instr.makeSlice 26 (.int .i64 0) (.int .i64 0)).run Tryd.prog w = .ok (.slice (some ⟨w.heap.size, 0, none⟩) 0 0) (w.alloc (.cells #[] 9)) := by kernel_rfl

theorem gCount_bd {most least : Int} {l : List UInt8} {p q n : Nat} (h : gCount most least l p = .inl (n, q)) : n ≤ 2147483647 := by
  unfold gCount at h
  split at h
  · rename_i n' q' hs
    obtain ⟨_, _, _, hb, _⟩ := gSize_inl hs
    split at h
    · cases h
    · simp only [Sum.inl.injEq, Prod.mk.injEq] at h
      omega
  · cases h

set_option maxRecDepth 100000 in
set_option maxHeartbeats 1000000 in
theorem rGet_any (B : Nat → Prop) (R c p : Nat) (A : Option Addr) (l : List UInt8) (most least : Int) (F : FuncId) (first cap : Array Value) (g : Rg (List UInt8)) (w : World) (h : Rdr w B R A c l p) (hent : ∀ (args : Array Value) (W : World), (callFunc F args).run Tryd.prog W = .ok (.enter F args) W)
    (hg : ∀ W q, Kp [R] w W → Rdr W B R A c l q → Calls Tryd.prog F (first.push (.pointer (some ⟨R, 0, none⟩)) ++ cap) W fun e w' => Rend B R c A l vText (g l q) W e w') :
    Calls Tryd.prog 43 #[.pointer (some ⟨R, 0, none⟩), .int .i64 most, .int .i64 least, .func (.func F) first cap] w fun e w' => Rend B R c A l (vTexts w.heap.size) (gGet most least g l p) w e w' := by
  obtain ⟨i0, hi0, hz0, hz1, hz2⟩ := info_parts str_info
  have hC := rCount_any B R c p A l most least (w.alloc (.cells #[] 9)) (h.later ((Below.refl _ _).alloc (Nat.le_refl _) _))
  have H := Lib.hid h
  have HG := Lib.hid hg
  have hne := getfn_ne F first cap
  have hmk := strs_make0
  have hRl := h.lt
  have hnew : ∀ y, w.heap.size ≤ y → ¬ B y := fun y hy => h.new (by omega)
  have HNEW := Lib.hid hnew
  clear hnew
  clear hg h
  rcases hres : gCount most least l p with ⟨n, q0⟩ | ⟨er, q0⟩
  · rw [hres] at hC
    have HC := Lib.hid hC
    have hnb : n ≤ 2147483647 := gCount_bd hres
    have HN : Hid (∀ e, gMany g n l q0 = e → gGet most least g l p = e) := by
      intro e he
      unfold gGet Rg.bind
      rw [hres]
      exact he
    clear hC hres
    go_enter Tryd.func43, Tryd.ntmps43
    go_wp2_with (go_at_call 26; refine (HC.out).mono ?_; rintro e w2 ⟨⟨v, rfl, rfl⟩, hkp, hR⟩; have HKP := Lib.hid hkp; have HR := Lib.hid hR; clear hkp hR)
    go_loopw [9, 16] (fun v i wr => ∃ (k q : Nat) (ds : List (List UInt8)), k ≤ n ∧ i = .int .i64 k ∧ ds.length = k ∧ wr.ownsRow w.heap.size 9 1 v k (scells (ds.map bs)) ∧ Hid (after ds (gMany g (n - k) l q) = gMany g n l q0) ∧ Kp [R] w wr ∧ Rdr wr B R A c l q) (fun _ i _ => n - (intOf i).toNat)
    case atStart =>
      exact ⟨0, q0, [], Nat.zero_le _, rfl, rfl, own_kp (World.ownsRow_made w #[] 0 (Nat.le_refl _) (by decide) rfl) HKP.out (fun x hx e => by simp [Value.ownBlock] at hx e; omega), by show _ = _; rcases gMany g n l q0 with ⟨r, q'⟩ | e <;> rfl, (Kp.alloc _).trans HKP.out, HR.out⟩
    case round =>
      clear HKP HR
      obtain ⟨k, q, ds, hk, rfl, hds, hown, HA, hkp, hR⟩ := hrel
      have HKP := Lib.hid hkp
      have HR := Lib.hid hR
      have HD := Lib.hid hds
      have hsz := hkp.size
      have hget := HG.out wr q hkp hR
      have HOWN := Lib.hid hown
      clear hkp hR hown hds
      by_cases hlt : k < n
      · obtain ⟨m, hm⟩ : ∃ m, n - k = m + 1 := ⟨n - k - 1, by omega⟩
        rw [hm] at HA
        rcases hgr : g l q with ⟨x, q1⟩ | ⟨er, q1⟩
        · rw [hgr] at hget
          have HGET := Lib.hid hget
          have HA2 : Hid (after (ds ++ [x]) (gMany g m l q1) = gMany g n l q0) := by
            show _ = _
            rw [← HA.out, after_step g ds m l q q1 x hgr]
          clear hget hgr HA
          go_wp2_with (first
            | (with_reducible refine (HGET.out).mono ?_
               rintro e w3 ⟨⟨v3, rfl, rfl⟩, hk3, hR3⟩
               have hsz3 := hk3.size
               have HK3 := Lib.hid (HKP.out.trans hk3)
               have hown3 := own_kp HOWN.out hk3 (fun y hy e => by have := (HOWN.out.lt y e).1; simp at hy; omega)
               have HOWN3 := Lib.hid hown3
               have HR3 := Lib.hid hR3
               clear hk3 hR3 hown3)
            | (at_builtin
               refine wpList_append_any _ rfl (.tmp 23) (.tmp 25) _ rfl w.heap.size 9 i0 _ 1 16 Tryd.underlying26 hi0 hz0 hz1 hz2 rfl (by decide) u9 k (scells (ds.map bs)) rfl (HOWN3.out.alloc _) (w3.heap.size + 1) (some ⟨w3.heap.size, 0, none⟩) 1 1 [.string ⟨x.toArray⟩] rfl (reads_lit w3 9 [_]) (by simp [Value.oneCell']) (by simp only [maxLen]; omega) (by omega) (by simp; omega) ?_
               intro v1 w4 hown4 hg4 hat4
               have HK4 := Lib.hid (HK3.out.to ((Kp.alloc (X := []) _).to (Kp.of_grown hg4) (fun _ h => by cases h) (fun y hy hl => hy)) (fun y hy _ => hy) (fun y hy hl => by have := (HOWN3.out.lt y (by simpa using hy)).1; omega))
               have HR4 := Lib.hid ((HR3.out.later ((Below.refl _ _).alloc (Nat.le_refl _) _)).kp (Kp.of_grown hg4) (fun hx => by have := (HOWN3.out.lt R (by simpa using hx)).1; omega) (fun y hy => HNEW.out y (HOWN3.out.lt y (by simpa using hy)).1))
               have HOWN4 := Lib.hid hown4
               clear hat4 hg4 hown4))
          go_roundw
          case rel =>
            refine ⟨k + 1, q1, ds ++ [x], by omega, by go_num, by rw [List.length_append, HD.out]; rfl, ?_, ?_, HK4.out, HR4.out⟩
            · rw [List.map_append, scells_append]; exact HOWN4.out
            · rw [show n - (k + 1) = m by omega]; exact HA2.out
          case measure => simp [intOf]; omega
        · rw [hgr] at hget
          have HGET := Lib.hid hget
          have hga : gGet most least g l p = .inr (er, q1) := by
            refine HN.out _ ?_
            rw [← HA.out, gMany_succ, hgr]
            rfl
          have HGA := Lib.hid hga
          clear hget hgr hga HA
          go_wp2_with (with_reducible refine (HGET.out).mono ?_
                       rintro e w3 ⟨rfl, hk3, hR3⟩
                       have HK3 := Lib.hid (HKP.out.trans hk3)
                       have HR3 := Lib.hid hR3
                       clear hk3 hR3)
          exact ⟨rfl, Rend.no HGA.out HK3.out HR3.out⟩
      · have hkn : k = n := by omega
        have hga : gGet most least g l p = .inl (ds, q) := by
          refine HN.out _ ?_
          rw [← HA.out, show n - k = 0 by omega]
          show (Sum.inl (ds ++ [], q) : (List (List UInt8) × Nat) ⊕ (Int × Nat)) = _
          rw [List.append_nil]
        have HGA := Lib.hid hga
        obtain ⟨A', c', rfl⟩ := slice_form HOWN.out
        clear hkn hga hget
        go_wp2
        go_ret
        exact Rend.yes HGA.out ⟨A', c', by rw [HD.out]; rfl, by rw [HD.out]; exact HOWN.out⟩ HKP.out HR.out
  · rw [hres] at hC
    have HC := Lib.hid hC
    have hga : gGet most least g l p = .inr (er, q0) := by
      unfold gGet Rg.bind
      rw [hres]
    have HGA := Lib.hid hga
    clear hC hres hga
    go_enter Tryd.func43, Tryd.ntmps43
    go_wp2_with (go_at_call 26; refine (HC.out).mono ?_; rintro e w2 ⟨rfl, hkp, hR⟩; have HKP := Lib.hid hkp; have HR := Lib.hid hR; clear hkp hR)
    exact ⟨rfl, Rend.no HGA.out ((Kp.alloc _).trans HKP.out) HR.out⟩
end Go.Proofs.YtbegingiedbldaaDoor
