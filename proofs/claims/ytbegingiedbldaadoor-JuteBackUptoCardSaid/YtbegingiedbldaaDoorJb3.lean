/- What is asked for values: the walk. -/
import Derived.Test.YtbegingiedbldaaDoorJb4
namespace Go.Proofs.YtbegingiedbldaaDoor
open Go.RowKit

theorem st_info : (Tryd.prog.info? 53).map (fun i => (i.zero, i.size, i.bytes)) = some (some (.agg #[.int .i64 0, .int .i64 0, .int .i64 0, .int .i64 0]), 4, 32) := by kernel_rfl
theorem st_one (s : St) : ∀ u ∈ stCells s, u.oneCell' = true := by
  intro u hu
  simp only [stCells, List.mem_cons, List.not_mem_nil, or_false] at hu
  rcases hu with rfl | rfl | rfl | rfl <;> rfl
theorem askS_len (S : List Vl) : (askS S).length ≤ S.length := by
  induction S with
  | nil => simp [askS]
  | cons v S ih =>
    have h : (askV v).length ≤ 1 := by
      unfold askV
      split <;> simp
    have e : askS (v :: S) = askV v ++ askS S := by simp [askS]
    rw [e, List.length_append, List.length_cons]
    omega
theorem askS_snoc (S : List Vl) (k : Nat) (s : Vl) (hk : S[k]? = some s) : askS (S.take (k + 1)) = askS (S.take k) ++ askV s := flat_take askV S k s hk

/-- what asking comes to -/
def AskEnd (S : List Vl) (w : World) (e : Ending) (w' : World) : Prop :=
  ((∀ v ∈ S, ¬ askBad v) ∧ ∃ v', e = .returned (.tuple #[v', .bool true]) ∧ w'.ownsRow w.heap.size 53 4 v' (askS S).length ((askS S).flatMap stCells) ∧ Below w.heap.size w w')
  ∨ ((∃ v ∈ S, askBad v) ∧ e = .returned (.tuple #[.slice none 0 0, .bool false]) ∧ Below w.heap.size w w')
theorem AskEnd.yes {S : List Vl} {w w' : World} {v' : Value} (h : ∀ v ∈ S, ¬ askBad v) (ho : w'.ownsRow w.heap.size 53 4 v' (askS S).length ((askS S).flatMap stCells)) (hb : Below w.heap.size w w') : AskEnd S w (.returned (.tuple #[v', .bool true])) w' := .inl ⟨h, v', rfl, ho, hb⟩
theorem AskEnd.no {S : List Vl} {w w' : World} (h : ∃ v ∈ S, askBad v) (hb : Below w.heap.size w w') : AskEnd S w (.returned (.tuple #[.slice none 0 0, .bool false])) w' := .inr ⟨h, rfl, hb⟩
/-- behind k values that are asked -/
def AskMid (S : List Vl) (w : World) (k : Nat) (v1 : Value) (wr : World) : Prop :=
  (∀ v ∈ S.take k, ¬ askBad v) ∧ wr.ownsRow w.heap.size 53 4 v1 (askS (S.take k)).length ((askS (S.take k)).flatMap stCells) ∧ Below w.heap.size w wr
theorem AskMid.skip {S : List Vl} {w wr wr' : World} {k : Nat} {v1 : Value} {s : Vl} (h : AskMid S w k v1 wr) (hs : S[k]? = some s) (hk : ¬ (1 ≤ s.k ∧ s.k ≤ 8)) (hb : Below wr.heap.size wr wr') : AskMid S w (k + 1) v1 wr' := by
  obtain ⟨h1, h2, h3⟩ := h
  refine ⟨fun v hv => ?_, ?_, h3.trans (hb.mono h3.size)⟩
  · rw [List.take_add_one, hs] at hv
    rcases List.mem_append.1 hv with hv | hv
    · exact h1 v hv
    · obtain rfl : v = s := by simpa using hv
      rintro ⟨h7, _⟩
      omega
  · rw [askS_snoc S k s hs, show askV s = [] by simp only [askV, if_neg hk], List.append_nil]
    exact own_kp h2 (Kp.of_below (X := []) hb) (fun _ h => by cases h)
theorem AskMid.more {S : List Vl} {w wr wr' : World} {k : Nat} {v1 v2 : Value} {s : Vl} (h : AskMid S w k v1 wr) (hs : S[k]? = some s) (hk : 1 ≤ s.k ∧ s.k ≤ 8) (hn : ¬ askBad s) (ho : wr'.ownsRow w.heap.size 53 4 v2 ((askS (S.take k)).length + 1) ((askS (S.take k)).flatMap stCells ++ stCells (askSt s))) (hb : Below w.heap.size w wr') : AskMid S w (k + 1) v2 wr' := by
  obtain ⟨h1, h2, h3⟩ := h
  refine ⟨fun v hv => ?_, ?_, hb⟩
  · rw [List.take_add_one, hs] at hv
    rcases List.mem_append.1 hv with hv | hv
    · exact h1 v hv
    · obtain rfl : v = s := by simpa using hv
      exact hn
  · rw [askS_snoc S k s hs, show askV s = [askSt s] by simp only [askV, if_pos hk], List.length_append, List.flatMap_append]
    simpa using ho


set_option maxRecDepth 100000 in
set_option maxHeartbeats 8000000 in
theorem asked_any (A : Option Addr) (n c B : Nat) (S : List Vl) (w : World) (hS : Reads w B 4 A n (S.flatMap vlCells)) (hL : ∀ x ∈ S, Reads w B 1 x.A x.n (scells x.L) ∧ VlFit x) (hB : B ≤ w.heap.size) (hn : n ≤ 1099511627776) :
    Calls Tryd.prog 45 #[.slice A n c] w (AskEnd S w) := by
  have hSl : S.length = n := by
    have h1 := hS.1
    have : ∀ S : List Vl, (S.flatMap vlCells).length = S.length * 4 := by
      intro S
      induction S with
      | nil => rfl
      | cons a S ih => rw [List.flatMap_cons, List.length_append, ih]; simp [vlCells]; omega
    rw [this] at h1
    omega
  subst hSl
  obtain ⟨i0, hi0, hz0, hz1, hz2⟩ := info_parts st_info
  have HS := Lib.hid hS
  have HL := Lib.hid hL
  clear hS hL
  go_enter Tryd.func45, Tryd.ntmps45
  go_wp2
  go_loopw [4, 5] (fun o i wr => ∃ (k : Nat) (v1 : Value), k ≤ S.length ∧ v1 = o ∧ i = .int .i64 k ∧ AskMid S w k v1 wr) (fun _ i _ => S.length - (intOf i).toNat)
  case atStart => exact ⟨0, _, Nat.zero_le _, rfl, rfl, fun v hv => (by simp at hv), World.ownsRow_nil _ _ _ _, Below.refl _ _⟩
  case round =>
    obtain ⟨wo, rfl⟩ : ∃ wo : World, wo = wr := ⟨_, rfl⟩
    obtain ⟨k, v1, hk, rfl, rfl, hM⟩ := hrel
    have hbw := hM.2.2
    have hzw := hbw.size
    have HM := Lib.hid hM
    have HBW := Lib.hid hbw
    clear hM hbw
    by_cases hlt : k < S.length
    · obtain ⟨s, hs⟩ : ∃ s, S[k]? = some s := ⟨_, List.getElem?_eq_getElem hlt⟩
      obtain ⟨bS, off, rfl, hbS, hcs⟩ := rows_at (f := vlCells) (q := 4) (by decide) (fun _ => rfl) (HS.out.below (HBW.out.mono hB)) k s hs
      have e0 := hcs 0 _ rfl
      have e1 := hcs 1 _ rfl
      have e2 := hcs 2 _ rfl
      have e3 := hcs 3 _ rfl
      simp only [Nat.add_zero] at e0
      have HSK := Lib.hid hs
      have HSM := Lib.hid (List.mem_of_getElem? hs)
      obtain ⟨wa, hwa⟩ : ∃ wa, wo.alloc (.cells #[.int .i64 s.k, .int .i64 s.z, .string s.t, .slice s.A s.n s.c] 68) = wa := ⟨_, rfl⟩
      have hba : Below wo.heap.size wo wa := by rw [← hwa]; exact (Below.refl _ _).alloc (Nat.le_refl _) _
      have hza : wa.heap.size = wo.heap.size + 1 := by rw [← hwa]; simp
      have bA : Blk wa wo.heap.size 68 #[.int .i64 s.k, .int .i64 s.z, .string s.t, .slice s.A s.n s.c] := by rw [← hwa]; exact Blk.new _ _ _
      have a0 : wa.cell? ⟨wo.heap.size, 0, none⟩ = some (.int .i64 s.k) := by rw [bA.cell 0]; rfl
      have a1 : wa.cell? ⟨wo.heap.size, 1, none⟩ = some (.int .i64 s.z) := by rw [bA.cell 1]; rfl
      have a2 : wa.cell? ⟨wo.heap.size, 2, none⟩ = some (.string s.t) := by rw [bA.cell 2]; rfl
      have a3 : wa.cell? ⟨wo.heap.size, 3, none⟩ = some (.slice s.A s.n s.c) := by rw [bA.cell 3]; rfl
      obtain ⟨wb, hwb⟩ : ∃ wb, wa.alloc (.cells #[.int .i64 s.k, .int .i64 s.t.size, .int .i64 0, .int .i64 0] 53) = wb := ⟨_, rfl⟩
      have hbb : Below wa.heap.size wa wb := by rw [← hwb]; exact (Below.refl _ _).alloc (Nat.le_refl _) _
      have bB : Blk wb wa.heap.size 53 #[.int .i64 s.k, .int .i64 s.t.size, .int .i64 0, .int .i64 0] := by rw [← hwb]; exact Blk.new _ _ _
      have hs2 : wb.setCell ⟨wa.heap.size, 2, none⟩ (.int .i64 0) = wb := by rw [← hwb, World.setCell_alloc_at _ _ _ _ _ rfl]; rfl
      have hs3 : wb.setCell ⟨wa.heap.size, 3, none⟩ (.int .i64 0) = wb := by rw [← hwb, World.setCell_alloc_at _ _ _ _ _ rfl]; rfl
      have hc2 : wb.cell? ⟨wa.heap.size, 2, none⟩ = some (.int .i64 0) := by rw [bB.cell 2]; rfl
      have hc3 : wb.cell? ⟨wa.heap.size, 3, none⟩ = some (.int .i64 0) := by rw [bB.cell 3]; rfl
      have hf2 := bB.frozen 2
      have hf3 := bB.frozen 3
      have hbab : Below wo.heap.size wo wb := hba.trans (hbb.mono hba.size)
      have HBA := Lib.hid hba
      have HBB := Lib.hid hbb
      have HBAB := Lib.hid hbab
      have HZA := Lib.hid hza
      have HbA := Lib.hid bA
      have HbB := Lib.hid bB
      have HR := Lib.hid ((HL.out s HSM.out).1.below (HBW.out.mono hB))
      have HF := Lib.hid (HL.out s HSM.out).2
      have hln := askS_len (S.take k)
      have hlk : (S.take k).length = k := by rw [List.length_take]; omega
      rw [hlk] at hln
      clear hs hcs bA bB hba hbb hbab hza hlk
      by_cases k0 : s.k < 1
      · as_aux_lemma =>
          go_wp2
          go_roundw
          case rel => exact ⟨k + 1, v1, by omega, rfl, by go_num, HM.out.skip HSK.out (by omega) HBA.out⟩
          case measure => simp [intOf]; omega
      · by_cases k9 : 8 < s.k
        · as_aux_lemma =>
            go_wp2
            go_roundw
            case rel => exact ⟨k + 1, v1, by omega, rfl, by go_num, HM.out.skip HSK.out (by omega) HBA.out⟩
            case measure => simp [intOf]; omega
        · have HK : Hid (1 ≤ s.k ∧ s.k ≤ 8) := by unfold Hid; omega
          have HOB := Lib.hid (own_kp HM.out.2.1 (Kp.of_below (X := []) HBAB.out) (fun _ h => by cases h))
          have HBWB : Hid (Below w.heap.size w wb) := HBW.out.trans (HBAB.out.mono HBW.out.size)
          by_cases k7 : s.k = 7
          · have n7 : (s.k == 7) = true := by simp [k7]
            have n8 : (s.k == 8) = false := by simp [k7]
            by_cases hz : wrap32 s.z < 0
            · as_aux_lemma =>
                have HBAD : Hid (askBad s) := ⟨k7, hz⟩
                clear k7
                go_wp2
                go_ret2
                exact AskEnd.no ⟨s, HSM.out, HBAD.out⟩ (HBW.out.trans (HBA.out.mono HBW.out.size))
            · as_aux_lemma =>
                have HNB : Hid (¬ askBad s) := fun h => hz h.2
                have HA : Hid (stCells (askSt s) = [.int .i64 s.k, .int .i64 2147483647, .int .i64 0, .int .i64 0]) := by unfold Hid; simp [stCells, askSt, k7]
                obtain ⟨wc, hwc⟩ : ∃ wc, wb.setCell ⟨wa.heap.size, 1, none⟩ (.int .i64 2147483647) = wc := ⟨_, rfl⟩
                have hkc : Kp [wa.heap.size] wb wc := by rw [← hwc]; exact Kp.setCell ⟨wa.heap.size, 1, none⟩ _
                have hbc : Blk wc wa.heap.size 53 #[.int .i64 s.k, .int .i64 2147483647, .int .i64 0, .int .i64 0] := by rw [← hwc]; exact HbB.out.set_ 1 _
                have b1 : wb.cell? ⟨wa.heap.size, 1, none⟩ = some (.int .i64 s.t.size) := by rw [HbB.out.cell 1]; rfl
                have f1 := HbB.out.frozen 1
                have hvb : Blk wb wo.heap.size 68 #[.int .i64 s.k, .int .i64 s.z, .string s.t, .slice s.A s.n s.c] := HbA.out.below HBB.out HbA.out.lt
                have d0 : wb.cell? ⟨wo.heap.size, 0, none⟩ = some (.int .i64 s.k) := by rw [hvb.cell 0]; rfl
                have hvc := hvb.kp hkc (by have := HZA.out; simp; omega)
                have g0 : wc.cell? ⟨wo.heap.size, 0, none⟩ = some (.int .i64 s.k) := by rw [hvc.cell 0]; rfl
                have c0 : wc.cell? ⟨wa.heap.size, 0, none⟩ = some (.int .i64 s.k) := by rw [hbc.cell 0]; rfl
                have c1 : wc.cell? ⟨wa.heap.size, 1, none⟩ = some (.int .i64 2147483647) := by rw [hbc.cell 1]; rfl
                have c2 : wc.cell? ⟨wa.heap.size, 2, none⟩ = some (.int .i64 0) := by rw [hbc.cell 2]; rfl
                have c3 : wc.cell? ⟨wa.heap.size, 3, none⟩ = some (.int .i64 0) := by rw [hbc.cell 3]; rfl
                have HOC := Lib.hid (own_kp HOB.out hkc (fun x hx e => by have := (HM.out.2.1.lt x e).2; have := HZA.out; simp at hx; omega))
                have HBC : Hid (Below w.heap.size w wc) := HBWB.out.trans (hkc.below (by have := HZA.out; simp; omega) HBWB.out.size)
                clear hkc hbc hvb hvc k7
                go_wp2
                go_loopw [8] (fun kk wr2 => kk = .int .i64 0 ∧ wc = wr2) (fun _ _ => 0)
                case atStart => exact ⟨rfl, rfl⟩
                case round =>
                  obtain ⟨rfl, rfl⟩ := hrel
                  go_wp2_with (at_builtin; refine wpList_append_any _ rfl (.tmp 86) (.tmp 88) _ rfl w.heap.size 53 i0 _ 4 32 Tryd.underlying23 hi0 hz0 hz1 hz2 rfl (by decide) v1 (askS (S.take k)).length ((askS (S.take k)).flatMap stCells) rfl (World.ownsRow.alloc HOC.out _) (wc.heap.size + 1) (some ⟨wc.heap.size, 0, none⟩) 1 1 (stCells (askSt s)) rfl (by rw [HA.out]; exact reads_lits wc 53 [_, _, _, _] 4 1 rfl) (st_one _) (by simp only [maxLen]; omega) (by omega) (by have := HBC.out.size; simp; omega) ?_; intro v3 w3 ho3 hg3 hat3; have HM3 := Lib.hid (HM.out.more HSK.out HK.out HNB.out ho3 (((HBC.out.alloc HBC.out.size _).grown hg3 (by have := HBC.out.size; simp; omega) (fun x hx => (HOC.out.lt x hx).1)))); clear ho3 hg3 hat3)
                  go_roundw
                  case rel => exact ⟨k + 1, v3, by omega, rfl, by go_num, HM3.out⟩
                  case measure => simp [intOf]; omega
          · have n7 : (s.k == 7) = false := by simp [k7]
            have hvb : Blk wb wo.heap.size 68 #[.int .i64 s.k, .int .i64 s.z, .string s.t, .slice s.A s.n s.c] := HbA.out.below HBB.out HbA.out.lt
            have d0 : wb.cell? ⟨wo.heap.size, 0, none⟩ = some (.int .i64 s.k) := by rw [hvb.cell 0]; rfl
            have HVB := Lib.hid hvb
            clear hvb
            have HNB : Hid (¬ askBad s) := fun h => k7 h.1
            by_cases k8 : s.k = 8
            · as_aux_lemma =>
                have n8 : (s.k == 8) = true := by simp [k8]
                have HA : Hid (stCells (askSt s) = [.int .i64 s.k, .int .i64 (mostTo s s.n : Nat), .int .i64 0, .int .i64 0]) := by unfold Hid; rw [← HF.out.1]; simp [stCells, askSt, k8]
                clear k7 k8
                go_wp2
                go_loopw [8] (fun kk wr2 => ∃ (j m : Nat), j ≤ s.n ∧ kk = .int .i64 j ∧ Hid (m = mostTo s j) ∧ Blk wr2 wa.heap.size 53 #[.int .i64 s.k, .int .i64 m, .int .i64 0, .int .i64 0] ∧ Kp [wa.heap.size] wb wr2) (fun kk _ => s.n - (intOf kk).toNat)
                case atStart => exact ⟨0, s.t.size, Nat.zero_le _, rfl, rfl, HbB.out, Kp.refl _ _⟩
                case round =>
                  obtain ⟨j, m, hj, rfl, HMJ, hbS2, hk2⟩ := hrel
                  have hvc := HVB.out.kp hk2 (by have := HZA.out; simp; omega)
                  have g0 : wr.cell? ⟨wo.heap.size, 0, none⟩ = some (.int .i64 s.k) := by rw [hvc.cell 0]; rfl
                  have g3 : wr.cell? ⟨wo.heap.size, 3, none⟩ = some (.slice s.A s.n s.c) := by rw [hvc.cell 3]; rfl
                  have c0 : wr.cell? ⟨wa.heap.size, 0, none⟩ = some (.int .i64 s.k) := by rw [hbS2.cell 0]; rfl
                  have c1 : wr.cell? ⟨wa.heap.size, 1, none⟩ = some (.int .i64 m) := by rw [hbS2.cell 1]; rfl
                  have c2 : wr.cell? ⟨wa.heap.size, 2, none⟩ = some (.int .i64 0) := by rw [hbS2.cell 2]; rfl
                  have c3 : wr.cell? ⟨wa.heap.size, 3, none⟩ = some (.int .i64 0) := by rw [hbS2.cell 3]; rfl
                  have f1 := hbS2.frozen 1
                  have HB2 := Lib.hid hbS2
                  have HK2 := Lib.hid hk2
                  clear hvc hbS2 hk2
                  have hsn := HF.out.2.1
                  by_cases hjl : j < s.n
                  · have hjL : j < s.L.length := by rw [HF.out.1]; exact hjl
                    obtain ⟨ad, e, hcell⟩ := reads_str (((HR.out.below (HBAB.out.mono (by omega))).kp HK2.out (by have := HBAB.out.size; omega) (by have := HZA.out; simp; omega))) hjL
                    rw [e] at g3
                    obtain ⟨q, hq⟩ : ∃ q, q = s.L[j] := ⟨_, rfl⟩
                    rw [← hq] at hcell
                    have HMS : Hid (mostTo s (j + 1) = max (max m q.size) s.n) := by unfold Hid; rw [HMJ.out, ← HF.out.1, hq]; simp [mostTo, List.getD_eq_getElem?_getD, List.getElem?_eq_getElem hjL]
                    have hi0 : (0 : Int) ≤ j := by omega
                    have hi1 : (j : Int) < s.n := by omega
                    clear e hq hjL
                    by_cases q1 : m < q.size
                    · have p1 : (m : Int) < q.size := by omega
                      by_cases q2 : q.size < s.n
                      · have p2 : (q.size : Int) < s.n := by omega
                        go_wp2
                        go_quiet (fail)
                        go_wp2
                        go_roundw
                        case rel => exact ⟨j + 1, s.n, by omega, by go_num, by show _ = _; rw [HMS.out]; omega, by first | exact ((HB2.out.drewN _).set_ 1 _).set_ 1 _ | exact (HB2.out.drewN _).set_ 1 _, HK2.out.trans ((Kp.drewN _).trans (by first | exact (Kp.setCell ⟨wa.heap.size, 1, none⟩ _).trans (Kp.setCell ⟨wa.heap.size, 1, none⟩ _) | exact Kp.setCell ⟨wa.heap.size, 1, none⟩ _))⟩
                        case measure => simp [intOf]; omega
                      · have p2 : ¬ (q.size : Int) < s.n := by omega
                        go_wp2
                        go_quiet (fail)
                        go_wp2
                        go_roundw
                        case rel => exact ⟨j + 1, q.size, by omega, by go_num, by show _ = _; rw [HMS.out]; omega, (HB2.out.drewN _).set_ 1 _, HK2.out.trans ((Kp.drewN _).trans (Kp.setCell ⟨wa.heap.size, 1, none⟩ _))⟩
                        case measure => simp [intOf]; omega
                    · have p1 : ¬ (m : Int) < q.size := by omega
                      by_cases q2 : m < s.n
                      · have p2 : (m : Int) < s.n := by omega
                        go_wp2
                        go_quiet (fail)
                        go_wp2
                        go_roundw
                        case rel => exact ⟨j + 1, s.n, by omega, by go_num, by show _ = _; rw [HMS.out]; omega, (HB2.out.drewN _).set_ 1 _, HK2.out.trans ((Kp.drewN _).trans (Kp.setCell ⟨wa.heap.size, 1, none⟩ _))⟩
                        case measure => simp [intOf]; omega
                      · have p2 : ¬ (m : Int) < s.n := by omega
                        go_wp2
                        go_quiet (fail)
                        go_wp2
                        go_roundw
                        case rel => exact ⟨j + 1, m, by omega, by go_num, by show _ = _; rw [HMS.out]; omega, HB2.out.drewN _, HK2.out.trans (Kp.drewN _)⟩
                        case measure => simp [intOf]; omega
                  · obtain rfl : j = s.n := by omega
                    have HOC := Lib.hid (own_kp HOB.out HK2.out (fun x hx e => by have := (HM.out.2.1.lt x e).2; have := HZA.out; simp at hx; omega))
                    have HBC : Hid (Below w.heap.size w wr) := HBWB.out.trans (HK2.out.below (by have := HZA.out; simp; omega) HBWB.out.size)
                    have HA2 : Hid (stCells (askSt s) = [.int .i64 s.k, .int .i64 m, .int .i64 0, .int .i64 0]) := by unfold Hid; rw [HMJ.out]; exact HA.out
                    go_wp2_with (at_builtin; refine wpList_append_any _ rfl (.tmp 86) (.tmp 88) _ rfl w.heap.size 53 i0 _ 4 32 Tryd.underlying23 hi0 hz0 hz1 hz2 rfl (by decide) v1 (askS (S.take k)).length ((askS (S.take k)).flatMap stCells) rfl (World.ownsRow.alloc HOC.out _) (wr.heap.size + 1) (some ⟨wr.heap.size, 0, none⟩) 1 1 (stCells (askSt s)) rfl (by rw [HA2.out]; exact reads_lits wr 53 [_, _, _, _] 4 1 rfl) (st_one _) (by simp only [maxLen]; omega) (by omega) (by have := HBC.out.size; simp; omega) ?_; intro v3 w3 ho3 hg3 hat3; have HM3 := Lib.hid (HM.out.more HSK.out HK.out HNB.out ho3 (((HBC.out.alloc HBC.out.size _).grown hg3 (by have := HBC.out.size; simp; omega) (fun x hx => (HOC.out.lt x hx).1)))); clear ho3 hg3 hat3)
                    go_roundw
                    case rel => exact ⟨k + 1, v3, by omega, rfl, by go_num, HM3.out⟩
                    case measure => simp [intOf]; omega
            · as_aux_lemma =>
                have n8 : (s.k == 8) = false := by simp [k8]
                have HA : Hid (stCells (askSt s) = [.int .i64 s.k, .int .i64 s.t.size, .int .i64 0, .int .i64 0]) := by unfold Hid; simp [stCells, askSt, k7, k8]
                have c0 : wb.cell? ⟨wa.heap.size, 0, none⟩ = some (.int .i64 s.k) := by rw [HbB.out.cell 0]; rfl
                have c1 : wb.cell? ⟨wa.heap.size, 1, none⟩ = some (.int .i64 s.t.size) := by rw [HbB.out.cell 1]; rfl
                have c2 : wb.cell? ⟨wa.heap.size, 2, none⟩ = some (.int .i64 0) := by rw [HbB.out.cell 2]; rfl
                have c3 : wb.cell? ⟨wa.heap.size, 3, none⟩ = some (.int .i64 0) := by rw [HbB.out.cell 3]; rfl
                clear k7 k8
                go_wp2
                go_loopw [8] (fun kk wr2 => kk = .int .i64 0 ∧ wb = wr2) (fun _ _ => 0)
                case atStart => exact ⟨rfl, rfl⟩
                case round =>
                  obtain ⟨rfl, rfl⟩ := hrel
                  go_wp2_with (at_builtin; refine wpList_append_any _ rfl (.tmp 86) (.tmp 88) _ rfl w.heap.size 53 i0 _ 4 32 Tryd.underlying23 hi0 hz0 hz1 hz2 rfl (by decide) v1 (askS (S.take k)).length ((askS (S.take k)).flatMap stCells) rfl (World.ownsRow.alloc HOB.out _) (wb.heap.size + 1) (some ⟨wb.heap.size, 0, none⟩) 1 1 (stCells (askSt s)) rfl (by rw [HA.out]; exact reads_lits wb 53 [_, _, _, _] 4 1 rfl) (st_one _) (by simp only [maxLen]; omega) (by omega) (by have := HBWB.out.size; simp; omega) ?_; intro v3 w3 ho3 hg3 hat3; have HM3 := Lib.hid (HM.out.more HSK.out HK.out HNB.out ho3 (((HBWB.out.alloc HBWB.out.size _).grown hg3 (by have := HBWB.out.size; simp; omega) (fun x hx => (HOB.out.lt x hx).1)))); clear ho3 hg3 hat3)
                  go_roundw
                  case rel => exact ⟨k + 1, v3, by omega, rfl, by go_num, HM3.out⟩
                  case measure => simp [intOf]; omega
    · have hkl : S.take k = S := List.take_of_length_le (by omega)
      obtain ⟨m1, m2, m3⟩ := HM.out
      rw [hkl] at m1 m2
      have H1 := Lib.hid m1
      have H2 := Lib.hid m2
      clear hkl m1 m2 m3
      go_wp2
      go_ret2
      exact AskEnd.yes H1.out H2.out HBW.out
end Go.Proofs.YtbegingiedbldaaDoor
