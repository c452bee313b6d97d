/- ReplyNames: the table of names; a name's code: the program's walks. (printed by gen_n2r.py) -/
import Derived.Test.YtnbaajplelchjaaGreatDoorRn1
import Derived.Maps.OwnSet
import Derived.Maps.OwnOps
import Derived.WalkKit
set_option linter.unusedVariables false
set_option linter.unusedSimpArgs false
namespace Go.Proofs.YtnbaajplelchjaaGreatDoor
open Go.RowKit Go.WideMaps Go.Maps

theorem lawS : Keyed Tryz.prog 9 := string_keyed Tryz.underlying9
theorem zeroC (w : World) : (zeroValue 22).run Tryz.prog w = .ok (.int .i32 0) w := by kernel_rfl
def key (s : List UInt8) : Lit := .string s
theorem key_of (s : List UInt8) (h : s.length ≤ 23) : keyOf Tryz.prog 9 (.string ⟨s.toArray⟩) = some (key s) := keyOf_string_mk Tryz.underlying9 (by show s.length ≤ _; unfold maxLen; omega)
theorem key_ne {s t : List UInt8} (h : s ≠ t) : key s ≠ key t := fun e => h (by injection e)
/-- the table after so many codes -/
def Tab (D : DataW Unit) (k : Nat) : Prop := IsMap D ∧ (∀ s, Maps.has D (key s) = true ↔ ∃ x ∈ known.take k, x.2 = s) ∧ ∀ x ∈ known.take k, D.atKey (key x.2) (.lit (.int .i32 0)) = .lit (.int .i32 x.1)
theorem key_is (s : List UInt8) : WideAt.IsKeyLit (key s) := trivial
theorem tab_zero : Tab (.map []) 0 := by
  refine ⟨isMap_empty, fun s => ⟨fun h => ?_, fun h => ?_⟩, fun x hx => ?_⟩
  · cases h
  · obtain ⟨x, hx, _⟩ := h
    simp at hx
  · simp at hx
theorem known_nodup : ∀ i, (hi : i < known.length) → ∀ x ∈ known.take i, x.2 ≠ (known[i]).2 := by decide
theorem tab_next {D : DataW Unit} {k : Nat} (hk : k < known.length) (h : Tab D k) : Tab (D.put (key (known[k]).2) (.lit (.int .i32 (known[k]).1))) (k + 1) := by
  obtain ⟨h1, h2, h3⟩ := h
  have ht : known.take (k + 1) = known.take k ++ [known[k]] := List.take_succ_eq_append_getElem hk
  refine ⟨h1.put _ _, fun s => ?_, fun x hx => ?_⟩
  · by_cases hs : s = (known[k]).2
    · subst hs
      rw [has_put_same h1 (key_is _)]
      exact ⟨fun _ => ⟨known[k], by rw [ht]; exact List.mem_append_right _ (List.mem_singleton.2 rfl), rfl⟩, fun _ => rfl⟩
    · rw [has_put_other (key_ne hs), h2]
      constructor
      · rintro ⟨x, hx, e⟩
        exact ⟨x, by rw [ht]; exact List.mem_append_left _ hx, e⟩
      · rintro ⟨x, hx, e⟩
        rw [ht] at hx
        rcases List.mem_append.1 hx with hx | hx
        · exact ⟨x, hx, e⟩
        · rw [List.mem_singleton] at hx
          exact absurd (by rw [← e, hx]) hs
  · rw [ht] at hx
    rcases List.mem_append.1 hx with hx | hx
    · rw [atKey_put_other (key_ne (known_nodup k hk x hx))]
      exact h3 x hx
    · rw [List.mem_singleton] at hx
      subst hx
      rw [atKey_put_same h1 (key_is _)]
theorem codes_get : ∀ i, (hi : i < known.length) → (#[.int .i32 0, .int .i32 (-1), .int .i32 (-2), .int .i32 (-4), .int .i32 (-5), .int .i32 (-6), .int .i32 (-8), .int .i32 (-101), .int .i32 (-102), .int .i32 (-103), .int .i32 (-108), .int .i32 (-110), .int .i32 (-111), .int .i32 (-112), .int .i32 (-114), .int .i32 (-121), .int .i32 (-125), .int .i32 (-127), .int .i32 (-128)] : Array Value)[i]? = some (.int .i32 (known[i]).1) := by
  intro i hi
  have h : (#[.int .i32 0, .int .i32 (-1), .int .i32 (-2), .int .i32 (-4), .int .i32 (-5), .int .i32 (-6), .int .i32 (-8), .int .i32 (-101), .int .i32 (-102), .int .i32 (-103), .int .i32 (-108), .int .i32 (-110), .int .i32 (-111), .int .i32 (-112), .int .i32 (-114), .int .i32 (-121), .int .i32 (-125), .int .i32 (-127), .int .i32 (-128)] : Array Value) = (known.map fun x => Value.int .i32 x.1).toArray := by kernel_rfl
  rw [h]
  simp [List.getElem?_map, List.getElem?_eq_getElem hi]
theorem grown_of {w w' : World} (hb : Below w.heap.size w w') : w.grownBy w' none := ⟨hb.os, hb.tape, hb.output, hb.size, fun k hk _ => hb.block k hk⟩

set_option maxRecDepth 100000 in
set_option maxHeartbeats 8000000 in
theorem known_any (w : World) (hE : EnvR w) : Calls Tryz.prog 71 #[] w fun e w' => e = .returned (.map (some w.heap.size)) ∧ (∃ D, w'.ownsMap Tryz.prog 9 (plainElem Tryz.prog 22) w.heap.size 19 D ∧ Tab D 19) ∧ Below w.heap.size w w' := by
  have hmm := @run_makeMap Tryz.prog
  obtain ⟨w2, hw2⟩ : ∃ w2, (w.alloc (.map #[] 0)).alloc (.cells #[.int .i32 0, .int .i32 (-1), .int .i32 (-2), .int .i32 (-4), .int .i32 (-5), .int .i32 (-6), .int .i32 (-8), .int .i32 (-101), .int .i32 (-102), .int .i32 (-103), .int .i32 (-108), .int .i32 (-110), .int .i32 (-111), .int .i32 (-112), .int .i32 (-114), .int .i32 (-121), .int .i32 (-125), .int .i32 (-127), .int .i32 (-128)] 22) = w2 := ⟨_, rfl⟩
  have hb2 : Below w.heap.size w w2 := by rw [← hw2]; exact ((Below.refl _ _).alloc (Nat.le_refl _) _).alloc (by simp) _
  have hz2 : w2.heap.size = w.heap.size + 2 := by rw [← hw2]; simp
  have hC : Blk w2 (w.heap.size + 1) 22 #[.int .i32 0, .int .i32 (-1), .int .i32 (-2), .int .i32 (-4), .int .i32 (-5), .int .i32 (-6), .int .i32 (-8), .int .i32 (-101), .int .i32 (-102), .int .i32 (-103), .int .i32 (-108), .int .i32 (-110), .int .i32 (-111), .int .i32 (-112), .int .i32 (-114), .int .i32 (-121), .int .i32 (-125), .int .i32 (-127), .int .i32 (-128)] := by rw [← hw2]; exact Blk.new' (by simp)
  have hM : w2.ownsMap Tryz.prog 9 (plainElem (H := Unit) Tryz.prog 22) w.heap.size 0 (.map []) := by
    rw [← hw2]
    exact (World.ownsMap_made _ _ _ _).alloc _
  have HB2 := Lib.hid hb2
  have HC := Lib.hid hC
  have HM := Lib.hid hM
  have HE := Lib.hid (hE.below hb2)
  have hE0 := Lib.hid hE
  clear hb2 hC hM hE
  go_enter Tryz.func71, Tryz.ntmps71
  go_wp2
  go_loopw [7] (fun i wr => ∃ (k : Nat) (D : DataW Unit), k ≤ 19 ∧ i = .int .i64 (k : Int) ∧ Hid (wr.ownsMap Tryz.prog 9 (plainElem Tryz.prog 22) w.heap.size k D) ∧ Hid (Tab D k) ∧ Hid (Below w.heap.size w wr) ∧ Hid (Blk wr (w.heap.size + 1) 22 #[.int .i32 0, .int .i32 (-1), .int .i32 (-2), .int .i32 (-4), .int .i32 (-5), .int .i32 (-6), .int .i32 (-8), .int .i32 (-101), .int .i32 (-102), .int .i32 (-103), .int .i32 (-108), .int .i32 (-110), .int .i32 (-111), .int .i32 (-112), .int .i32 (-114), .int .i32 (-121), .int .i32 (-125), .int .i32 (-127), .int .i32 (-128)]) ∧ Hid (EnvR wr)) (fun i _ => 19 - (intOf i).toNat)
  case atStart => exact ⟨0, _, by omega, rfl, HM.out, tab_zero, HB2.out, HC.out, HE.out⟩
  case round =>
    clear HM HB2 HC HE
    obtain ⟨k, D, hk, rfl, HM, HT, HB, HC, HE⟩ := hrel
    by_cases hlt : k < 19
    · have hkl : k < known.length := hlt
      have hcell : wr.cell? ⟨w.heap.size + 1, k, none⟩ = some (.int .i32 (known[k]).1) := (HC.out.cell k).trans (codes_get k hkl)
      have hr := known_range (known[k]) (List.getElem_mem _)
      have hn := codeName_in (List.getElem_mem hkl)
      have hlen := known_len (known[k]) (List.getElem_mem _)
      have hnx := tab_next hkl HT.out
      obtain ⟨c, hc⟩ : ∃ c, c = (known[k]).1 := ⟨_, rfl⟩
      obtain ⟨s, hs⟩ : ∃ s, s = (known[k]).2 := ⟨_, rfl⟩
      rw [← hc] at hcell hr hn hnx
      rw [← hs] at hn hlen hnx
      have hna := name_any c (by omega) (by omega) wr HE.out
      rw [hn] at hna
      have HNA := Lib.hid hna
      have HNX := Lib.hid hnx
      have hkey := key_of s hlen
      have hwf : (Lit.int .i32 c).wf = true := WalkArith.wf_i32 (by omega)
      have HWF := Lib.hid hwf
      clear hna hnx hn hc hs hkl hwf hlen
      go_wp2_with (first
        | (go_at_call 29
           refine HNA.out.mono ?_
           rintro e w4 ⟨rfl, hb⟩
           have hz4 := hb.size
           have HM4 := Lib.hid (HM.out.kept (grown_of hb) (by simp))
           have HB4 := Lib.hid (HB.out.trans (hb.mono HB.out.size))
           have HC4 := Lib.hid (HC.out.below hb HC.out.lt)
           have HE4 := Lib.hid (HE.out.below hb)
           clear hb)
        | (at_mapUpdate
           refine wpList_mapUpdate_own _ rfl _ _ _ 116 rfl 9 22 lawS Tryz.underlying116 _ w.heap.size k D rfl HM4.out (by unfold maxLen; omega) _ _ _ rfl rfl hkey _ [] (plainElem_int Tryz.underlying22 HWF.out) ?_
           intro w5 hown5 hgrow5
           have HM5 := Lib.hid hown5
           have HG5 := Lib.hid hgrow5
           clear hown5 hgrow5))
      have hb5 : Below w.heap.size w w5 := HB4.out.grown HG5.out HB4.out.size (fun j hj => by cases hj; exact Nat.le_refl _)
      have hc5 : Blk w5 (w.heap.size + 1) 22 #[.int .i32 0, .int .i32 (-1), .int .i32 (-2), .int .i32 (-4), .int .i32 (-5), .int .i32 (-6), .int .i32 (-8), .int .i32 (-101), .int .i32 (-102), .int .i32 (-103), .int .i32 (-108), .int .i32 (-110), .int .i32 (-111), .int .i32 (-112), .int .i32 (-114), .int .i32 (-121), .int .i32 (-125), .int .i32 (-127), .int .i32 (-128)] := HC4.out.grown HG5.out (by simp)
      have he5 : EnvR w5 := hE0.out.below hb5
      go_roundw
      case rel => exact ⟨k + 1, _, by omega, by go_num, HM5.out, HNX.out, hb5, hc5, he5⟩
      case measure => simp [intOf]; omega
    · have hk19 : k = 19 := by omega
      subst hk19
      go_wp2
      go_ret
      exact ⟨rfl, ⟨D, HM.out, HT.out⟩, HB.out⟩
end Go.Proofs.YtnbaajplelchjaaGreatDoor
