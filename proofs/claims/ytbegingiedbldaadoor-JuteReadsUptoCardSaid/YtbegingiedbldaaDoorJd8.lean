/- The document's reading of a script: the walk. -/
import Derived.Test.YtbegingiedbldaaDoorJd7
namespace Go.Proofs.YtbegingiedbldaaDoor
open Go.RowKit

/-- behind the reading of a script -/
def ReadingE (base R : Nat) (A : Option Addr) (c : Nat) (l : List UInt8) (G : Gt) (r : Nat ⊕ (Int × Nat)) (w : World) (e : Ending) (w' : World) : Prop :=
  ∃ aN cN aT cT, e = .returned (.agg #[.slice aN G.1.length cN, .slice aT G.2.length cT]) ∧ Kp [R] w w' ∧ w'.ownsRow w.heap.size 2 1 (.slice aN G.1.length cN) G.1.length (icells G.1) ∧ w'.ownsRow w.heap.size 9 1 (.slice aT G.2.length cT) G.2.length (scells (G.2.map bs)) ∧ RR w' base R A c l (rAt r) (rE r)
/-- in the midst of it -/
def ReadMid (base R : Nat) (A : Option Addr) (c : Nat) (l : List UInt8) (S : List St) (k : Nat) (N : List Int) (T : List (List UInt8)) (wr : World) : Prop :=
  (∃ q, MidP l S k q N T ∧ RR wr base R A c l q 0) ∨ (∃ q er, er ≠ 0 ∧ (play S l 0).1 = (N, T) ∧ (play S l 0).2 = .inr (er, q) ∧ RR wr base R A c l q er)

set_option maxRecDepth 100000 in
set_option maxHeartbeats 4000000 in
theorem reading_any (base R : Nat) (A SA : Option Addr) (c sn sc Bs : Nat) (l : List UInt8) (S : List St) (w : World) (hR : RR w base R A c l 0 0) (hS : Reads w Bs 4 SA sn (S.flatMap stCells)) (hsb : Bs ≤ base) (hbz : base ≤ w.heap.size) (hsn : sn ≤ 1048576) (hl : l.length ≤ 1048576) :
    Calls Tryd.prog 13 #[.pointer (some ⟨R, 0, none⟩), .slice SA sn sc] w (ReadingE base R A c l (play S l 0).1 (play S l 0).2 w) := by
  have hSl : S.length = sn := by
    have h1 := hS.1
    have : ∀ S : List St, (S.flatMap stCells).length = S.length * 4 := by
      intro S
      induction S with
      | nil => rfl
      | cons a S ih => rw [List.flatMap_cons, List.length_append, ih]; simp [stCells]; omega
    rw [this] at h1
    omega
  subst hSl
  obtain ⟨P, hP⟩ : ∃ P, P = play S l 0 := ⟨_, rfl⟩
  rw [← hP]
  have HPE := Lib.hid hP
  have hRl := hR.lt
  have hold := hR.old
  obtain ⟨w0, hw0⟩ : ∃ w0, (w.alloc (.cells #[.slice none 0 0, .slice none 0 0] 28)).alloc (.cells #[.slice none 0 0, .slice none 0 0] 28) = w0 := ⟨_, rfl⟩
  have hb0 : Below w.heap.size w w0 := by rw [← hw0]; exact ((Below.refl _ _).alloc (Nat.le_refl _) _).alloc (by simp) _
  have HG0 : Hid (GotSt w0 w.heap.size (w.heap.size + 1) (.slice none 0 0) (.slice none 0 0) [] []) := ⟨by rw [← hw0]; exact Blk.new' (by simp), World.ownsRow_nil _ _ _ _, World.ownsRow_nil _ _ _ _⟩
  have HB0 : Hid (Blk w0 w.heap.size 28 #[.slice none 0 0, .slice none 0 0]) := by unfold Hid; rw [← hw0]; exact (Blk.new' rfl).alloc _
  have HK0 : Hid (Kp [R] w w0) := Kp.of_below hb0
  have HR0 := Lib.hid (hR.later hb0)
  have HS := Lib.hid hS
  clear hP hR hS hb0
  go_enter Tryd.func13, Tryd.ntmps13
  go_wp2
  go_loopw [6] (fun i wr => ∃ (k : Nat) (N : List Int) (T : List (List UInt8)) (vN vT : Value), k ≤ S.length ∧ i = .int .i64 k ∧ Kp [R] w wr ∧ GotSt wr w.heap.size (w.heap.size + 1) vN vT N (T.map bs) ∧ Blk wr w.heap.size 28 #[.slice none 0 0, .slice none 0 0] ∧ ReadMid base R A c l S k N T wr) (fun i _ => S.length - (intOf i).toNat)
  case atStart => exact ⟨0, [], [], _, _, Nat.zero_le _, rfl, HK0.out, HG0.out, HB0.out, .inl ⟨0, ⟨Nat.zero_le _, Nat.zero_le _, rfl, rfl, rfl⟩, HR0.out⟩⟩
  case round =>
    clear HK0 HG0 HB0 HR0
    obtain ⟨wo, rfl⟩ : ∃ wo : World, wo = wr := ⟨_, rfl⟩
    obtain ⟨k, N, T, vN, vT, hk, rfl, hkp, hg, hrb, hmid⟩ := hrel
    have hsz := hkp.size
    have hzg := hg.blk.lt
    obtain ⟨g0, g1, gf0, gf1⟩ := hg.cells
    have z0 : wo.cell? ⟨w.heap.size, 0, none⟩ = some (.slice none 0 0) := by rw [hrb.cell 0]; rfl
    have z1 : wo.cell? ⟨w.heap.size, 1, none⟩ = some (.slice none 0 0) := by rw [hrb.cell 1]; rfl
    have zf0 := hrb.frozen 0
    have zf1 := hrb.frozen 1
    have HKP := Lib.hid hkp
    have HG := Lib.hid hg
    have HRB := Lib.hid hrb
    clear hkp hg hrb
    have fin : ∀ (q : Nat) (er : Int), RR wo base R A c l q er → P.1 = (N, T) → rAt P.2 = q → rE P.2 = er → ∀ aN cN aT cT, vN = .slice aN N.length cN → vT = .slice aT T.length cT → ReadingE base R A c l P.1 P.2 w (.returned (.agg #[.slice aN N.length cN, .slice aT T.length cT])) ((wo.setCell ⟨w.heap.size, 0, none⟩ (.slice aN N.length cN)).setCell ⟨w.heap.size, 1, none⟩ (.slice aT T.length cT)) := by
      intro q er hR h1 h2 h3 aN cN aT cT e1 e2
      rw [h1]
      unfold ReadingE
      rw [h2, h3]
      subst e1 e2
      have hn := HG.out.nums
      have ht := HG.out.txts
      rw [List.length_map] at ht
      have hRne : R ≠ w.heap.size := by omega
      refine ⟨aN, cN, aT, cT, rfl, (HKP.out.to ((Kp.setCell ⟨w.heap.size, 0, none⟩ _).trans (Kp.setCell ⟨w.heap.size, 1, none⟩ _)) (fun _ h _ => h) (fun y hy hl => by simp at hy; omega)), own_set (own_set hn HRB.out (by decide) 0 _) (HRB.out.set_ 0 _) (by decide) 1 _, own_set (own_set ht HRB.out (by decide) 0 _) (HRB.out.set_ 0 _) (by decide) 1 _, (hR.kp (Kp.setCell ⟨w.heap.size, 0, none⟩ _) (by simpa using hRne) (by simpa using hbz)).kp (Kp.setCell ⟨w.heap.size, 1, none⟩ _) (by simpa using hRne) (by simpa using hbz)⟩
    have FIN := Lib.hid fin
    clear fin
    rcases hmid with ⟨q, hM, hR⟩ | ⟨q, er, hne, hp1, hp2, hR⟩
    · obtain ⟨k0, k1, k2, kf1, kf2⟩ := hR.cells
      have hq := hR.here
      have HR := Lib.hid hR
      have HM := Lib.hid hM
      have hNl : N.length ≤ 1099511627776 := by have := hM.1; omega
      have hTl : (T.map bs).length ≤ 1099511627776 := by rw [List.length_map]; have := hM.2.1; omega
      clear hR hM
      by_cases hlt : k < S.length
      · obtain ⟨s, hs⟩ : ∃ s, S[k]? = some s := ⟨_, List.getElem?_eq_getElem hlt⟩
        obtain ⟨bS, off, rfl, hbS, e0, e1, e2, e3⟩ := st_cells (HS.out.kp HKP.out (by omega) (by simp; omega)) k s hs
        have HT := Lib.hid (one_any base w.heap.size R (w.heap.size + 1) A c l q vN vT N (T.map bs) s wo HR.out HG.out hbz (by omega) hsz hNl hTl)
        have HSK := Lib.hid hs
        clear hs
        go_wp2_with (go_at_call 50; (with_reducible refine (HT.out).mono ?_); rintro e w2 h2; have H2 := Lib.hid h2; obtain rfl := h2.1; clear h2)
        have hkp2 : Kp [R] w w2 := HKP.out.to H2.out.2.1 (fun _ h _ => h) (fun y hy hl => by
          rcases List.mem_cons.1 hy with h | h
          · simp [h]
          · rcases List.mem_cons.1 h with h | h
            · omega
            · rcases List.mem_append.1 h with h | h
              · have := (HG.out.nums.lt y (by simpa using h)).1; omega
              · have := (HG.out.txts.lt y (by simpa using h)).1; omega)
        have hrb2 : Blk w2 w.heap.size 28 #[.slice none 0 0, .slice none 0 0] := HRB.out.kp H2.out.2.1 (fun hy => by
          rcases List.mem_cons.1 hy with h | h
          · omega
          · rcases List.mem_cons.1 h with h | h
            · omega
            · rcases List.mem_append.1 h with h | h
              · exact own_blk_ne HG.out.nums HRB.out (by decide) (by simpa using h)
              · exact own_blk_ne HG.out.txts HRB.out (by decide) (by simpa using h))
        have h22 := H2.out.2.2
        have HKP2 := Lib.hid hkp2
        have HRB2 := Lib.hid hrb2
        clear hkp2 hrb2
        rcases hres : stepR s l q with ⟨g, q1⟩ | ⟨er, q1⟩
        · rw [hres] at h22
          obtain ⟨⟨vN', vT', hg'⟩, hR'⟩ := h22
          have hm := HM.out.step hq HSK.out hres
          have HG' : Hid (GotSt w2 w.heap.size (w.heap.size + 1) vN' vT' (N ++ g.1) ((T ++ g.2).map bs)) := by unfold Hid; rw [List.map_append]; exact hg'
          have HM' : Hid (ReadMid base R A c l S (k + 1) (N ++ g.1) (T ++ g.2) w2) := .inl ⟨q1, hm, hR'⟩
          clear hg' hR' hm hres H2
          go_roundw
          case rel => exact ⟨k + 1, _, _, vN', vT', by omega, by go_num, HKP2.out, HG'.out, HRB2.out, HM'.out⟩
          case measure => simp [intOf]; omega
        · rw [hres] at h22
          obtain ⟨hne, hg', hR'⟩ := h22
          have hm := HM.out.fail HSK.out hres
          have HG' := Lib.hid hg'
          have HM' : Hid (ReadMid base R A c l S (k + 1) N T w2) := .inr ⟨q1, er, hne, hm.1, hm.2, hR'⟩
          clear hg' hR' hm hres H2 hne
          go_roundw
          case rel => exact ⟨k + 1, _, _, vN, vT, by omega, by go_num, HKP2.out, HG'.out, HRB2.out, HM'.out⟩
          case measure => simp [intOf]; omega
      · obtain ⟨p1, p2⟩ := HM.out.done (by omega)
        obtain ⟨aN, cN, hN⟩ := slice_form HG.out.nums
        obtain ⟨aT, cT, hT⟩ := slice_form HG.out.txts
        rw [List.length_map] at hT
        have HF := Lib.hid (FIN.out q 0 HR.out (by rw [HPE.out]; exact p1) (by rw [HPE.out, p2]; rfl) (by rw [HPE.out, p2]; rfl) aN cN aT cT hN hT)
        clear p1 p2
        subst hN hT
        go_wp2
        refine bodyPost_ret (v := .agg #[.slice aN N.length cN, .slice aT T.length cT]) ?_ rfl ?_
        · simp [results, Tryd.results13, go_sem, z0, z1]
        · exact HF.out
    · obtain ⟨k0, k1, k2, kf1, kf2⟩ := hR.cells
      have hnb : (er == 0) = false := by simp [hne]
      obtain ⟨aN, cN, hN⟩ := slice_form HG.out.nums
      obtain ⟨aT, cT, hT⟩ := slice_form HG.out.txts
      rw [List.length_map] at hT
      have HF := Lib.hid (FIN.out q er hR (by rw [HPE.out]; exact hp1) (by rw [HPE.out, hp2]; rfl) (by rw [HPE.out, hp2]; rfl) aN cN aT cT hN hT)
      clear hR hp1 hp2 hne
      subst hN hT
      by_cases hlt : k < S.length
      · go_wp2
        refine bodyPost_ret (v := .agg #[.slice aN N.length cN, .slice aT T.length cT]) ?_ rfl ?_
        · simp [results, Tryd.results13, go_sem, z0, z1]
        · exact HF.out
      · go_wp2
        refine bodyPost_ret (v := .agg #[.slice aN N.length cN, .slice aT T.length cT]) ?_ rfl ?_
        · simp [results, Tryd.results13, go_sem, z0, z1]
        · exact HF.out
end Go.Proofs.YtbegingiedbldaaDoor
