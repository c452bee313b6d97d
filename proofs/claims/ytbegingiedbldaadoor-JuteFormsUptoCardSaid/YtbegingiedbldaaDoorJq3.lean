/- A play: the walk of its readings. -/
import Derived.Test.YtbegingiedbldaaDoorJq1
import Derived.Test.YtbegingiedbldaaDoorJq2
import Derived.Deep.LoopGhost
namespace Go.Proofs.YtbegingiedbldaaDoor
open Go.RowKit

def stCells (s : St) : List Value := [.int .i64 s.k, .int .i64 s.most, .int .i64 s.least, .int .i64 s.n]
theorem st_cells {w : World} {B n : Nat} {A : Option Addr} {S : List St} (h : Reads w B 4 A n (S.flatMap stCells)) (k : Nat) (s : St) (hk : S[k]? = some s) :
    ∃ b off, A = some ⟨b, off, none⟩ ∧ b < B ∧ w.cell? ⟨b, off + k * 4, none⟩ = some (.int .i64 s.k) ∧ w.cell? ⟨b, off + k * 4 + 1, none⟩ = some (.int .i64 s.most) ∧ w.cell? ⟨b, off + k * 4 + 2, none⟩ = some (.int .i64 s.least) ∧ w.cell? ⟨b, off + k * 4 + 3, none⟩ = some (.int .i64 s.n) := by
  have hlen : (S.flatMap stCells).length = S.length * 4 := by
    clear h hk
    induction S with
    | nil => rfl
    | cons a S ih => rw [List.flatMap_cons, List.length_append, ih]; simp [stCells]; omega
  have hkl : k < S.length := (List.getElem?_eq_some_iff.1 hk).1
  have hn : n = S.length := by have := h.1; omega
  have hget : ∀ j, j < 4 → (S.flatMap stCells)[k * 4 + j]? = (stCells s)[j]? := by
    clear h hlen hn
    intro j hj
    induction S generalizing k with
    | nil => simp at hkl
    | cons a S ih =>
      rw [List.flatMap_cons]
      have hla : (stCells a).length = 4 := rfl
      cases k with
      | zero =>
        simp only [List.getElem?_cons_zero, Option.some.injEq] at hk
        subst hk
        rw [List.getElem?_append_left (by rw [hla]; omega)]
        simp
      | succ k =>
        rw [List.getElem?_append_right (by rw [hla]; omega), hla, show (k + 1) * 4 + j - 4 = k * 4 + j by omega]
        exact ih k (by simpa using hk) (by simpa using hkl)
  obtain ⟨b, off, rfl, hb, hc⟩ := h.plain (by omega) (by decide)
  refine ⟨b, off, rfl, hb, ?_, ?_, ?_, ?_⟩
  · have := hc (k * 4 + 0) _ (hget 0 (by omega)); simpa using this
  · have := hc (k * 4 + 1) _ (hget 1 (by omega)); simpa [Nat.add_assoc] using this
  · have := hc (k * 4 + 2) _ (hget 2 (by omega)); simpa [Nat.add_assoc] using this
  · have := hc (k * 4 + 3) _ (hget 3 (by omega)); simpa [Nat.add_assoc] using this

theorem play_step {S : List St} {k q q1 : Nat} {s : St} {l : List UInt8} {g : Gt} (hk : S[k]? = some s) (h : stepR s l q = .inl (g, q1)) :
    (play (S.drop k) l q).1.1 = g.1 ++ (play (S.drop (k + 1)) l q1).1.1 ∧ (play (S.drop k) l q).1.2 = g.2 ++ (play (S.drop (k + 1)) l q1).1.2 ∧ (play (S.drop k) l q).2 = (play (S.drop (k + 1)) l q1).2 := by
  obtain ⟨hl, he⟩ := List.getElem?_eq_some_iff.1 hk
  rw [List.drop_eq_getElem_cons hl, he, play, h]
  exact ⟨rfl, rfl, rfl⟩
theorem play_fail {S : List St} {k q : Nat} {s : St} {l : List UInt8} {e : Int × Nat} (hk : S[k]? = some s) (h : stepR s l q = .inr e) : play (S.drop k) l q = (([], []), .inr e) := by
  obtain ⟨hl, he⟩ := List.getElem?_eq_some_iff.1 hk
  rw [List.drop_eq_getElem_cons hl, he, play, h]

/-- what is so after k steps: the plain part -/
def MidP (l : List UInt8) (S : List St) (k q : Nat) (N : List Int) (T : List (List UInt8)) : Prop :=
  N.length ≤ k ∧ 4 * T.length ≤ q ∧ N ++ (play (S.drop k) l q).1.1 = (play S l 0).1.1 ∧ T ++ (play (S.drop k) l q).1.2 = (play S l 0).1.2 ∧ (play (S.drop k) l q).2 = (play S l 0).2
theorem MidP.step {l : List UInt8} {S : List St} {k q q1 : Nat} {N : List Int} {T : List (List UInt8)} {s : St} {g : Gt} (h : MidP l S k q N T) (hq : q ≤ l.length) (hk : S[k]? = some s) (hs : stepR s l q = .inl (g, q1)) : MidP l S (k + 1) q1 (N ++ g.1) (T ++ g.2) := by
  obtain ⟨h1, h2, h3, h4, h5⟩ := h
  obtain ⟨e1, e2, e3⟩ := play_step hk hs
  have hat := stepR_at s hq hs
  refine ⟨by rw [List.length_append]; omega, by rw [List.length_append]; omega, ?_, ?_, ?_⟩
  · rw [List.append_assoc, ← e1, h3]
  · rw [List.append_assoc, ← e2, h4]
  · rw [← e3, h5]
theorem MidP.fail {l : List UInt8} {S : List St} {k q : Nat} {N : List Int} {T : List (List UInt8)} {s : St} {e : Int × Nat} (h : MidP l S k q N T) (hk : S[k]? = some s) (hs : stepR s l q = .inr e) : (play S l 0).1 = (N, T) ∧ (play S l 0).2 = .inr e := by
  obtain ⟨_, _, h3, h4, h5⟩ := h
  rw [play_fail hk hs] at h3 h4 h5
  simp only [List.append_nil] at h3 h4
  exact ⟨by rw [h3, h4], h5.symm⟩
theorem MidP.done {l : List UInt8} {S : List St} {k q : Nat} {N : List Int} {T : List (List UInt8)} (h : MidP l S k q N T) (hk : S.length ≤ k) : (play S l 0).1 = (N, T) ∧ (play S l 0).2 = .inl q := by
  obtain ⟨_, _, h3, h4, h5⟩ := h
  rw [List.drop_eq_nil_of_le hk] at h3 h4 h5
  simp only [play, List.append_nil] at h3 h4 h5
  exact ⟨by rw [h3, h4], h5.symm⟩

/-- behind a play of the script S -/
def Played (W : World) (b R : Nat) (SV : Value) (calls : Int) (G : Gt) (W' : World) : Prop :=
  ∃ vN vT, PlaySt W' W.heap.size b SV vN vT G.1 G.2 (.pointer (some ⟨R, 0, none⟩)) calls

set_option maxRecDepth 100000 in
set_option maxHeartbeats 2000000 in
theorem run_any (B : Nat → Prop) (R c b sn sc Bs : Nat) (A SA : Option Addr) (l : List UInt8) (S : List St) (K : Value) (calls : Int) (W : World)
    (hR : Rdr W B R A c l 0) (hb : Blk W b 31 #[.slice SA sn sc, .slice none 0 0, .slice none 0 0, K, .int .i64 calls]) (hS : Reads W Bs 4 SA sn (S.flatMap stCells)) (hBb : ¬ B b) (hsb : Bs ≤ b) (hsR : Bs ≤ R) (hne : b ≠ R)
    (hl : l.length ≤ 1099511627776) (hsn : sn ≤ 1099511627776) (hcalls : 0 ≤ calls) (hcalls2 : calls ≤ 1000) :
    Calls Tryd.prog 12 #[.pointer (some ⟨b, 0, none⟩), .pointer (some ⟨R, 0, none⟩)] W fun e W' => Did B R c A l [b] (Played W b R (.slice SA sn sc) (calls + 1) (play S l 0).1) (play S l 0).2 W e W' := by
  have hSl : S.length = sn := by
    have h1 := hS.1
    have : ∀ S : List St, (S.flatMap stCells).length = S.length * 4 := by
      intro S
      induction S with
      | nil => rfl
      | cons a S ih => rw [List.flatMap_cons, List.length_append, ih]; simp [stCells]; omega
    rw [this] at h1
    omega
  subst hSl
  have f2 := hb.frozen 2
  have f3 := hb.frozen 3
  have f4 := hb.frozen 4
  have c0 : W.cell? ⟨b, 0, none⟩ = some (.slice SA S.length sc) := by rw [hb.cell 0]; rfl
  have c4 : W.cell? ⟨b, 4, none⟩ = some (.int .i64 calls) := by rw [hb.cell 4]; rfl
  have c3 : W.cell? ⟨b, 3, none⟩ = some K := by rw [hb.cell 3]; rfl
  have HR := Lib.hid hR
  have HB := Lib.hid hb
  have HS := Lib.hid hS
  clear hR hb hS
  go_enter Tryd.func12, Tryd.ntmps12
  go_wp2_with fail
  obtain ⟨w1, hw1⟩ : ∃ w1, (W.setCell ⟨b, 3, none⟩ (.pointer (some ⟨R, 0, none⟩))).setCell ⟨b, 4, none⟩ (.int .i64 (calls + 1)) = w1 := ⟨_, rfl⟩
  have hk1 : Kp [R, b] W w1 := by
    rw [← hw1]
    exact (Kp.setCell ⟨b, 3, none⟩ _).to (Kp.setCell ⟨b, 4, none⟩ _) (fun x hx _ => by simp at hx; simp [hx]) (fun x hx _ => by simp at hx; simp [hx])
  have hp1 : PlaySt w1 W.heap.size b (.slice SA S.length sc) (.slice none 0 0) (.slice none 0 0) [] [] (.pointer (some ⟨R, 0, none⟩)) (calls + 1) := by
    rw [← hw1]
    exact ⟨(HB.out.set_ 3 _).set_ 4 _, World.ownsRow_nil _ _ _ _, World.ownsRow_nil _ _ _ _⟩
  have hr1 : Rdr w1 B R A c l 0 := by
    rw [← hw1]
    refine (HR.out.kp (Kp.setCell ⟨b, 3, none⟩ (.pointer (some ⟨R, 0, none⟩))) (by simp [hne.symm]) (by simpa using hBb)).kp (Kp.setCell ⟨b, 4, none⟩ (.int .i64 (calls + 1))) (by simp [hne.symm]) (by simpa using hBb)
  have HK1 := Lib.hid hk1
  have HP1 := Lib.hid hp1
  have HR1 := Lib.hid hr1
  have hbl := HB.out.lt
  have hRl := HR.out.lt
  rw [hw1]
  clear hk1 hp1 hr1 hw1 c0 c3 c4 f2 f3 f4
  go_loopw [4] (fun i wr => ∃ (k q : Nat) (vN vT : Value) (N : List Int) (T : List (List UInt8)), k ≤ S.length ∧ i = .int .i64 k ∧ Hid (MidP l S k q N T) ∧ PlaySt wr W.heap.size b (.slice SA S.length sc) vN vT N T (.pointer (some ⟨R, 0, none⟩)) (calls + 1) ∧ Rdr wr B R A c l q ∧ Kp [R, b] W wr) (fun i _ => S.length - (intOf i).toNat)
  case atStart => exact ⟨0, 0, _, _, [], [], Nat.zero_le _, rfl, ⟨Nat.zero_le _, Nat.zero_le _, rfl, rfl, rfl⟩, HP1.out, HR1.out, HK1.out⟩
  case round =>
    clear HK1 HP1 HR1
    obtain ⟨wo, rfl⟩ : ∃ wo : World, wo = wr := ⟨_, rfl⟩
    obtain ⟨k, q, vN, vT, N, T, hk, rfl, HM, hp, hr, hkp⟩ := hrel
    have cS : wo.cell? ⟨b, 0, none⟩ = some (.slice SA S.length sc) := by rw [hp.blk.cell 0]; rfl
    have hsz := hkp.size
    have HP := Lib.hid hp
    have HRd := Lib.hid hr
    have HKP := Lib.hid hkp
    by_cases hlt : k < S.length
    · obtain ⟨s, hs⟩ : ∃ s, S[k]? = some s := ⟨_, List.getElem?_eq_getElem hlt⟩
      obtain ⟨bS, off, rfl, hbS, e0, e1, e2, e3⟩ := st_cells (HS.out.kp hkp (by have := hsb; omega) (by simp; omega)) k s hs
      have HSK := Lib.hid hs
      have hbS1 : bS < wo.heap.size := by omega
      obtain ⟨wa, hwa⟩ : ∃ wa, wo.alloc (.cells #[.int .i64 s.k, .int .i64 s.most, .int .i64 s.least, .int .i64 s.n] 53) = wa := ⟨_, rfl⟩
      have hba : Below wo.heap.size wo wa := by rw [← hwa]; exact (Below.refl _ _).alloc (Nat.le_refl _) _
      have bA : Blk wa wo.heap.size 53 #[.int .i64 s.k, .int .i64 s.most, .int .i64 s.least, .int .i64 s.n] := by rw [← hwa]; exact Blk.new _ _ _
      have a0 : wa.cell? ⟨wo.heap.size, 0, none⟩ = some (.int .i64 s.k) := by rw [bA.cell 0]; rfl
      have HPA := Lib.hid (hp.later hba)
      have HRA := Lib.hid (hr.later hba)
      have HKA := Lib.hid (hkp.to (Kp.of_below (X := []) hba) (Z := [R, b]) (fun _ h _ => h) (fun _ h => by cases h))
      have HBA := Lib.hid bA
      have hzA : W.heap.size ≤ wa.heap.size := HKA.out.size
      clear hp hr hkp hs bA hba HP HRd HKP
      by_cases k1 : s.k = 1
      · as_aux_lemma =>
          have n1 : (s.k == 1) = true := by simp [k1]
          have hRd := rBool_any B R c q A l wa HRA.out
          rcases hres : gBool l q with ⟨x, q1⟩ | ⟨er, q1⟩
          · have hst : stepR s l q = .inl (([if x then 1 else 0], []), q1) := by simp [stepR, Rg.map, k1, hres]
            have hm := HM.out.step HRA.out.here HSK.out hst
            rw [hres] at hRd
            have HRD := Lib.hid hRd
            have HM2 := Lib.hid hm
            obtain ⟨hNk, hTq, _⟩ := HM.out
            have hqb := HRA.out.here
            clear hst hm hRd hres k1
            cases x
            all_goals (
              go_wp2_with (first
                | (go_at_call 20; refine (HRD.out).mono ?_; rintro e w2 ⟨⟨v, rfl, rfl⟩, hk2, hr2⟩; have HP2 := Lib.hid (HPA.out.kp hk2 (by simp [hne]) (by simpa using hRl)); have HK2 := Lib.hid (HKA.out.to hk2 (Z := [R, b]) (fun _ h _ => h) (fun y hy _ => by simp at hy; simp [hy])); have HR2 := Lib.hid hr2; clear hk2 hr2)
                | (go_at_call 48; refine (number_any W.heap.size b _ vN vT N T _ _ _ w2 HP2.out HK2.out.size (by omega)).mono ?_; rintro e w3 ⟨rfl, vN', hp3, hk3⟩; have HP3 := Lib.hid hp3; have HF := Lib.hid (num_kp HK2.out HP2.out HR2.out hk3 hBb hne hRl); clear hp3 hk3))
              go_roundw
              case rel => exact ⟨k + 1, q1, vN', vT, _, T, by omega, by go_num, by show MidP _ _ _ _ _ _; simpa using HM2.out, HP3.out, HF.out.2, HF.out.1⟩
              case measure => simp [intOf]; omega)
          · have hst : stepR s l q = .inr (er, q1) := by simp [stepR, Rg.map, k1, hres]
            obtain ⟨hf1, hf2⟩ := HM.out.fail HSK.out hst
            rw [hres] at hRd
            have HRD := Lib.hid hRd
            have HF1 := Lib.hid hf1
            have HF2 := Lib.hid hf2
            have n1 : (s.k == 1) = true := by simp [k1]
            clear hst hf1 hf2 hRd hres k1
            go_wp2_with (first | (go_at_call 20; refine (HRD.out).mono ?_; rintro e w2 ⟨rfl, hk2, hr2⟩; have HP2 := Lib.hid (HPA.out.kp hk2 (by simp [hne]) (by simpa using hRl)); have HK2 := Lib.hid (HKA.out.to hk2 (Z := [R, b]) (fun _ h _ => h) (fun y hy _ => by simp at hy; simp [hy])); have HR2 := Lib.hid hr2; clear hk2 hr2))
            refine ⟨rfl, ?_⟩
            rw [HF1.out, HF2.out]
            exact ⟨rfl, ⟨vN, vT, HP2.out⟩, HK2.out, HR2.out⟩
      by_cases k2 : s.k = 2
      · as_aux_lemma =>
          have n1 : (s.k == 1) = false := by simp [k1]
          have n2 : (s.k == 2) = true := by simp [k2]
          have hRd := rByte_any B R c q A l wa HRA.out
          rcases hres : gByte l q with ⟨x, q1⟩ | ⟨er, q1⟩
          · have hst : stepR s l q = .inl (([(x : Int)], []), q1) := by simp [stepR, Rg.map, k2, hres]
            have hm := HM.out.step HRA.out.here HSK.out hst
            rw [hres] at hRd
            have HRD := Lib.hid hRd
            have HM2 := Lib.hid hm
            obtain ⟨hNk, hTq, _⟩ := HM.out
            have hqb := HRA.out.here
            have hx256 : x < 256 := by have := (gNum_inl hres).2.2.2; simpa using this
            clear hst hm hRd hres k1 k2
            go_wp2_with (first
              | (go_at_call 21; refine (HRD.out).mono ?_; rintro e w2 ⟨⟨v, rfl, rfl⟩, hk2, hr2⟩; have HP2 := Lib.hid (HPA.out.kp hk2 (by simp [hne]) (by simpa using hRl)); have HK2 := Lib.hid (HKA.out.to hk2 (Z := [R, b]) (fun _ h _ => h) (fun y hy _ => by simp at hy; simp [hy])); have HR2 := Lib.hid hr2; clear hk2 hr2)
              | (go_at_call 48; refine (number_any W.heap.size b _ vN vT N T _ _ _ w2 HP2.out HK2.out.size (by omega)).mono ?_; rintro e w3 ⟨rfl, vN', hp3, hk3⟩; have HP3 := Lib.hid hp3; have HF := Lib.hid (num_kp HK2.out HP2.out HR2.out hk3 hBb hne hRl); clear hp3 hk3))
            go_roundw
            case rel => exact ⟨k + 1, q1, vN', vT, _, T, by omega, by go_num, by show MidP _ _ _ _ _ _; simpa using HM2.out, HP3.out, HF.out.2, HF.out.1⟩
            case measure => simp [intOf]; omega
          · have hst : stepR s l q = .inr (er, q1) := by simp [stepR, Rg.map, k2, hres]
            obtain ⟨hf1, hf2⟩ := HM.out.fail HSK.out hst
            rw [hres] at hRd
            have HRD := Lib.hid hRd
            have HF1 := Lib.hid hf1
            have HF2 := Lib.hid hf2
            have n1 : (s.k == 1) = false := by simp [k1]
            have n2 : (s.k == 2) = true := by simp [k2]
            clear hst hf1 hf2 hRd hres k1 k2
            go_wp2_with (first | (go_at_call 21; refine (HRD.out).mono ?_; rintro e w2 ⟨rfl, hk2, hr2⟩; have HP2 := Lib.hid (HPA.out.kp hk2 (by simp [hne]) (by simpa using hRl)); have HK2 := Lib.hid (HKA.out.to hk2 (Z := [R, b]) (fun _ h _ => h) (fun y hy _ => by simp at hy; simp [hy])); have HR2 := Lib.hid hr2; clear hk2 hr2))
            refine ⟨rfl, ?_⟩
            rw [HF1.out, HF2.out]
            exact ⟨rfl, ⟨vN, vT, HP2.out⟩, HK2.out, HR2.out⟩
      by_cases k3 : s.k = 3
      · as_aux_lemma =>
          have n1 : (s.k == 1) = false := by simp [k1]
          have n2 : (s.k == 2) = false := by simp [k2]
          have n3 : (s.k == 3) = true := by simp [k3]
          have hRd := rInt_any B R c q A l wa HRA.out
          rcases hres : gInt l q with ⟨x, q1⟩ | ⟨er, q1⟩
          · have hst : stepR s l q = .inl (([x], []), q1) := by simp [stepR, Rg.map, k3, hres]
            have hm := HM.out.step HRA.out.here HSK.out hst
            rw [hres] at hRd
            have HRD := Lib.hid hRd
            have HM2 := Lib.hid hm
            obtain ⟨hNk, hTq, _⟩ := HM.out
            have hqb := HRA.out.here
            have hx32 : -2147483648 ≤ x ∧ x ≤ 2147483647 := by rw [(gInt_inl hres).2.1]; exact wrap32_bd _
            obtain ⟨hx1, hx2⟩ := hx32
            clear hst hm hRd hres k1 k2 k3
            go_wp2_with (first
              | (go_at_call 22; refine (HRD.out).mono ?_; rintro e w2 ⟨⟨v, rfl, rfl⟩, hk2, hr2⟩; have HP2 := Lib.hid (HPA.out.kp hk2 (by simp [hne]) (by simpa using hRl)); have HK2 := Lib.hid (HKA.out.to hk2 (Z := [R, b]) (fun _ h _ => h) (fun y hy _ => by simp at hy; simp [hy])); have HR2 := Lib.hid hr2; clear hk2 hr2)
              | (go_at_call 48; refine (number_any W.heap.size b _ vN vT N T _ _ _ w2 HP2.out HK2.out.size (by omega)).mono ?_; rintro e w3 ⟨rfl, vN', hp3, hk3⟩; have HP3 := Lib.hid hp3; have HF := Lib.hid (num_kp HK2.out HP2.out HR2.out hk3 hBb hne hRl); clear hp3 hk3))
            go_roundw
            case rel => exact ⟨k + 1, q1, vN', vT, _, T, by omega, by go_num, by show MidP _ _ _ _ _ _; simpa using HM2.out, HP3.out, HF.out.2, HF.out.1⟩
            case measure => simp [intOf]; omega
          · have hst : stepR s l q = .inr (er, q1) := by simp [stepR, Rg.map, k3, hres]
            obtain ⟨hf1, hf2⟩ := HM.out.fail HSK.out hst
            rw [hres] at hRd
            have HRD := Lib.hid hRd
            have HF1 := Lib.hid hf1
            have HF2 := Lib.hid hf2
            have n1 : (s.k == 1) = false := by simp [k1]
            have n2 : (s.k == 2) = false := by simp [k2]
            have n3 : (s.k == 3) = true := by simp [k3]
            clear hst hf1 hf2 hRd hres k1 k2 k3
            go_wp2_with (first | (go_at_call 22; refine (HRD.out).mono ?_; rintro e w2 ⟨rfl, hk2, hr2⟩; have HP2 := Lib.hid (HPA.out.kp hk2 (by simp [hne]) (by simpa using hRl)); have HK2 := Lib.hid (HKA.out.to hk2 (Z := [R, b]) (fun _ h _ => h) (fun y hy _ => by simp at hy; simp [hy])); have HR2 := Lib.hid hr2; clear hk2 hr2))
            refine ⟨rfl, ?_⟩
            rw [HF1.out, HF2.out]
            exact ⟨rfl, ⟨vN, vT, HP2.out⟩, HK2.out, HR2.out⟩
      by_cases k4 : s.k = 4
      · as_aux_lemma =>
          have n1 : (s.k == 1) = false := by simp [k1]
          have n2 : (s.k == 2) = false := by simp [k2]
          have n3 : (s.k == 3) = false := by simp [k3]
          have n4 : (s.k == 4) = true := by simp [k4]
          have hRd := rLong_any B R c q A l wa HRA.out
          rcases hres : gLong l q with ⟨x, q1⟩ | ⟨er, q1⟩
          · have hst : stepR s l q = .inl (([x], []), q1) := by simp [stepR, Rg.map, k4, hres]
            have hm := HM.out.step HRA.out.here HSK.out hst
            rw [hres] at hRd
            have HRD := Lib.hid hRd
            have HM2 := Lib.hid hm
            obtain ⟨hNk, hTq, _⟩ := HM.out
            have hqb := HRA.out.here
            clear hst hm hRd hres k1 k2 k3 k4
            go_wp2_with (first
              | (go_at_call 23; refine (HRD.out).mono ?_; rintro e w2 ⟨⟨v, rfl, rfl⟩, hk2, hr2⟩; have HP2 := Lib.hid (HPA.out.kp hk2 (by simp [hne]) (by simpa using hRl)); have HK2 := Lib.hid (HKA.out.to hk2 (Z := [R, b]) (fun _ h _ => h) (fun y hy _ => by simp at hy; simp [hy])); have HR2 := Lib.hid hr2; clear hk2 hr2)
              | (go_at_call 48; refine (number_any W.heap.size b _ vN vT N T _ _ _ w2 HP2.out HK2.out.size (by omega)).mono ?_; rintro e w3 ⟨rfl, vN', hp3, hk3⟩; have HP3 := Lib.hid hp3; have HF := Lib.hid (num_kp HK2.out HP2.out HR2.out hk3 hBb hne hRl); clear hp3 hk3))
            go_roundw
            case rel => exact ⟨k + 1, q1, vN', vT, _, T, by omega, by go_num, by show MidP _ _ _ _ _ _; simpa using HM2.out, HP3.out, HF.out.2, HF.out.1⟩
            case measure => simp [intOf]; omega
          · have hst : stepR s l q = .inr (er, q1) := by simp [stepR, Rg.map, k4, hres]
            obtain ⟨hf1, hf2⟩ := HM.out.fail HSK.out hst
            rw [hres] at hRd
            have HRD := Lib.hid hRd
            have HF1 := Lib.hid hf1
            have HF2 := Lib.hid hf2
            have n1 : (s.k == 1) = false := by simp [k1]
            have n2 : (s.k == 2) = false := by simp [k2]
            have n3 : (s.k == 3) = false := by simp [k3]
            have n4 : (s.k == 4) = true := by simp [k4]
            clear hst hf1 hf2 hRd hres k1 k2 k3 k4
            go_wp2_with (first | (go_at_call 23; refine (HRD.out).mono ?_; rintro e w2 ⟨rfl, hk2, hr2⟩; have HP2 := Lib.hid (HPA.out.kp hk2 (by simp [hne]) (by simpa using hRl)); have HK2 := Lib.hid (HKA.out.to hk2 (Z := [R, b]) (fun _ h _ => h) (fun y hy _ => by simp at hy; simp [hy])); have HR2 := Lib.hid hr2; clear hk2 hr2))
            refine ⟨rfl, ?_⟩
            rw [HF1.out, HF2.out]
            exact ⟨rfl, ⟨vN, vT, HP2.out⟩, HK2.out, HR2.out⟩
      by_cases k5 : s.k = 5
      · as_aux_lemma =>
          have n1 : (s.k == 1) = false := by simp [k1]
          have n2 : (s.k == 2) = false := by simp [k2]
          have n3 : (s.k == 3) = false := by simp [k3]
          have n4 : (s.k == 4) = false := by simp [k4]
          have n5 : (s.k == 5) = true := by simp [k5]
          have a1 : wa.cell? ⟨wo.heap.size, 1, none⟩ = some (.int .i64 s.most) := by rw [HBA.out.cell 1]; rfl
          have hRd := rBuffer_any B R c q A l s.most wa HRA.out
          rcases hres : gBuf s.most l q with ⟨x, q1⟩ | ⟨er, q1⟩
          · have hst : stepR s l q = .inl (([], [x]), q1) := by simp [stepR, Rg.map, k5, hres]
            have hm := HM.out.step HRA.out.here HSK.out hst
            rw [hres] at hRd
            have HRD := Lib.hid hRd
            have HM2 := Lib.hid hm
            obtain ⟨hNk, hTq, _⟩ := HM.out
            have hqb := HRA.out.here
            have hxl := gBuf_inl hres
            have hx1 : x.length ≤ 9223372036854775807 := by omega
            clear hst hm hRd hres hxl k1 k2 k3 k4 k5
            have hza := HKA.out.size
            go_wp2_with (first
              | (go_at_call 24
                 refine (HRD.out).mono ?_
                 rintro e w2 ⟨⟨v, rfl, A', c', rfl, ho⟩, hk2, hr2⟩
                 have hcv := run_string_of_bytes (P := Tryd.prog) (w := w2) (src := 22) (e := 5) Tryd.underlying22 Tryd.underlying5 (Reads.of_own ho) (c := c') 9 Tryd.underlying9
                 have HO2 := Lib.hid ho
                 have hza2 := hk2.size
                 clear ho
                 have HP2 := Lib.hid (HPA.out.kp hk2 (by simp [hne]) (by simpa using hRl))
                 have HK2 := Lib.hid (HKA.out.to hk2 (Z := [R, b]) (fun _ h _ => h) (fun y hy _ => by simp at hy; simp [hy]))
                 have HR2 := Lib.hid hr2
                 clear hk2 hr2)
              | (go_at_call 49
                 refine (text_any W.heap.size b _ vN vT N T _ _ x w2 HP2.out HK2.out.size (by omega)).mono ?_
                 rintro e w3 ⟨rfl, vT', hp3, hk3, hat3⟩
                 have HO3 := Lib.hid (own_kp HO2.out hk3 (fun y hy e => by
                   rcases List.mem_cons.1 hy with rfl | hy
                   · exact own_blk_ne HO2.out HP2.out.blk (by decide) e
                   · exact own_own_ne HP2.out.txts HO2.out (by decide) y (by simpa using hy) e))
                 have HP3 := Lib.hid hp3
                 have HF := Lib.hid (txt_kp HK2.out HP2.out HR2.out hk3 hBb hne hRl)
                 have hza3 := hk3.size
                 clear hp3 hk3 hat3))
            go_loopw [7] (fun j wx => ∃ (m : Nat) (xs : List Value), m ≤ x.length ∧ j = .int .i64 m ∧ PlaySt wx W.heap.size b (.slice (some ⟨bS, off, none⟩) S.length sc) vN vT' N (T ++ [x]) (.pointer (some ⟨R, 0, none⟩)) (calls + 1) ∧ Rdr wx B R A c l q1 ∧ Kp [R, b] W wx ∧ wx.ownsRow wa.heap.size 5 1 (.slice A' x.length c') x.length xs) (fun j _ => x.length - (intOf j).toNat)
            case atStart => exact ⟨0, _, Nat.zero_le _, rfl, HP3.out, HF.out.2, HF.out.1, HO3.out⟩
            case round =>
              obtain ⟨m, xs, hmx, rfl, hp4, hr4, hk4, ho4⟩ := hrel
              have HP4 := Lib.hid hp4
              have HR4 := Lib.hid hr4
              have HK4 := Lib.hid hk4
              have HO4 := Lib.hid ho4
              by_cases hm : m < x.length
              · obtain ⟨g, cap, hv, hgb, hgl⟩ := ho4.form (by omega)
                injection hv with hA' hn' hc'
                subst hA'
                have hxl : m < xs.length := by have := ho4.1; omega
                have hcell : wr.cell? ⟨g, m, none⟩ = some (xs[m]) := by rw [ho4.cellAt m (by omega), List.getElem?_eq_getElem hxl]
                have hfz := ho4.frozenAt m
                clear hp4 hr4 hk4 ho4 hn' hc'
                go_wp2
                go_roundw
                case rel =>
                  have hs := HO4.out.stored m (.int .u8 0)
                  have ng : b ≠ g := fun e => own_blk_ne HO4.out HP4.out.blk (by decide) (by rw [e]; rfl)
                  exact ⟨m + 1, _, by omega, by go_num, ⟨HP4.out.blk.far ng _, own_kp HP4.out.nums (Kp.setCell ⟨g, m, none⟩ (.int .u8 0)) (fun y hy e => own_own_ne HO4.out HP4.out.nums (by decide) y (by simp at hy; rw [hy]; rfl) e), own_kp HP4.out.txts (Kp.setCell ⟨g, m, none⟩ (.int .u8 0)) (fun y hy e => own_own_ne HO4.out HP4.out.txts (by decide) y (by simp at hy; rw [hy]; rfl) e)⟩, HR4.out.kp (Kp.setCell ⟨g, m, none⟩ (.int .u8 0)) (by simp; omega) (fun y hy => by rw [List.mem_singleton.1 hy]; exact HR4.out.new (y := g) (by omega)), HK4.out.to (Kp.setCell ⟨g, m, none⟩ (.int .u8 0)) (fun _ h _ => h) (fun y hy hl => by simp at hy; omega), hs.1⟩
                case measure => simp [intOf]; omega
              · clear hp4 hr4 hk4 ho4
                go_wp2
                go_roundw
                case rel => exact ⟨k + 1, q1, vN, vT', N, T ++ [x], by omega, by go_num, by show MidP _ _ _ _ _ _; simpa using HM2.out, HP4.out, HR4.out, HK4.out⟩
                case measure => simp [intOf]; omega
          · have hst : stepR s l q = .inr (er, q1) := by simp [stepR, Rg.map, k5, hres]
            obtain ⟨hf1, hf2⟩ := HM.out.fail HSK.out hst
            rw [hres] at hRd
            have HRD := Lib.hid hRd
            have HF1 := Lib.hid hf1
            have HF2 := Lib.hid hf2
            have n1 : (s.k == 1) = false := by simp [k1]
            have n2 : (s.k == 2) = false := by simp [k2]
            have n3 : (s.k == 3) = false := by simp [k3]
            have n4 : (s.k == 4) = false := by simp [k4]
            have n5 : (s.k == 5) = true := by simp [k5]
            clear hst hf1 hf2 hRd hres k1 k2 k3 k4 k5
            go_wp2_with (first | (go_at_call 24; refine (HRD.out).mono ?_; rintro e w2 ⟨rfl, hk2, hr2⟩; have HP2 := Lib.hid (HPA.out.kp hk2 (by simp [hne]) (by simpa using hRl)); have HK2 := Lib.hid (HKA.out.to hk2 (Z := [R, b]) (fun _ h _ => h) (fun y hy _ => by simp at hy; simp [hy])); have HR2 := Lib.hid hr2; clear hk2 hr2))
            refine ⟨rfl, ?_⟩
            rw [HF1.out, HF2.out]
            exact ⟨rfl, ⟨vN, vT, HP2.out⟩, HK2.out, HR2.out⟩
      have a1 : wa.cell? ⟨wo.heap.size, 1, none⟩ = some (.int .i64 s.most) := by rw [HBA.out.cell 1]; rfl
      have a2 : wa.cell? ⟨wo.heap.size, 2, none⟩ = some (.int .i64 s.least) := by rw [HBA.out.cell 2]; rfl
      have a3 : wa.cell? ⟨wo.heap.size, 3, none⟩ = some (.int .i64 s.n) := by rw [HBA.out.cell 3]; rfl
      by_cases k6 : s.k = 6
      · as_aux_lemma =>
          have n1 : (s.k == 1) = false := by simp [k1]
          have n2 : (s.k == 2) = false := by simp [k2]
          have n3 : (s.k == 3) = false := by simp [k3]
          have n4 : (s.k == 4) = false := by simp [k4]
          have n5 : (s.k == 5) = false := by simp [k5]
          have n6 : (s.k == 6) = true := by simp [k6]
          have hRd := rText_any B R c q A l s.most wa HRA.out
          rcases hres : (gText s.most) l q with ⟨x, q1⟩ | ⟨er, q1⟩
          · have hst : stepR s l q = .inl (([], [x]), q1) := by simp [stepR, Rg.map, k6, hres]
            have hm := HM.out.step HRA.out.here HSK.out hst
            rw [hres] at hRd
            have HRD := Lib.hid hRd
            have HM2 := Lib.hid hm
            obtain ⟨hNk, hTq, _⟩ := HM.out
            have hqb := HRA.out.here
            clear hst hm hRd hres k1 k2 k3 k4 k5 k6
            go_wp2_with (first
              | (go_at_call 25; refine (HRD.out).mono ?_; rintro e w2 ⟨⟨v, rfl, rfl⟩, hk2, hr2⟩; have HP2 := Lib.hid (HPA.out.kp hk2 (by simp [hne]) (by simpa using hRl)); have HK2 := Lib.hid (HKA.out.to hk2 (Z := [R, b]) (fun _ h _ => h) (fun y hy _ => by simp at hy; simp [hy])); have HR2 := Lib.hid hr2; clear hk2 hr2)
              | (go_at_call 49; refine (text_any W.heap.size b _ vN vT N T _ _ x w2 HP2.out HK2.out.size (by omega)).mono ?_; rintro e w3 ⟨rfl, vT', hp3, hk3, hat3⟩; have HP3 := Lib.hid hp3; have HF := Lib.hid (txt_kp HK2.out HP2.out HR2.out hk3 hBb hne hRl); clear hp3 hk3 hat3))
            go_roundw
            case rel => exact ⟨k + 1, q1, vN, vT', N, _, by omega, by go_num, by show MidP _ _ _ _ _ _; simpa using HM2.out, HP3.out, HF.out.2, HF.out.1⟩
            case measure => simp [intOf]; omega
          · have hst : stepR s l q = .inr (er, q1) := by simp [stepR, Rg.map, k6, hres]
            obtain ⟨hf1, hf2⟩ := HM.out.fail HSK.out hst
            rw [hres] at hRd
            have HRD := Lib.hid hRd
            have HF1 := Lib.hid hf1
            have HF2 := Lib.hid hf2
            have n1 : (s.k == 1) = false := by simp [k1]
            have n2 : (s.k == 2) = false := by simp [k2]
            have n3 : (s.k == 3) = false := by simp [k3]
            have n4 : (s.k == 4) = false := by simp [k4]
            have n5 : (s.k == 5) = false := by simp [k5]
            have n6 : (s.k == 6) = true := by simp [k6]
            clear hst hf1 hf2 hRd hres k1 k2 k3 k4 k5 k6
            go_wp2_with (first | (go_at_call 25; refine (HRD.out).mono ?_; rintro e w2 ⟨rfl, hk2, hr2⟩; have HP2 := Lib.hid (HPA.out.kp hk2 (by simp [hne]) (by simpa using hRl)); have HK2 := Lib.hid (HKA.out.to hk2 (Z := [R, b]) (fun _ h _ => h) (fun y hy _ => by simp at hy; simp [hy])); have HR2 := Lib.hid hr2; clear hk2 hr2))
            refine ⟨rfl, ?_⟩
            rw [HF1.out, HF2.out]
            exact ⟨rfl, ⟨vN, vT, HP2.out⟩, HK2.out, HR2.out⟩
      by_cases k7 : s.k = 7
      · as_aux_lemma =>
          have n1 : (s.k == 1) = false := by simp [k1]
          have n2 : (s.k == 2) = false := by simp [k2]
          have n3 : (s.k == 3) = false := by simp [k3]
          have n4 : (s.k == 4) = false := by simp [k4]
          have n5 : (s.k == 5) = false := by simp [k5]
          have n6 : (s.k == 6) = false := by simp [k6]
          have n7 : (s.k == 7) = true := by simp [k7]
          have hRd := rCount_any B R c q A l s.most s.least wa HRA.out
          rcases hres : (gCount s.most s.least) l q with ⟨x, q1⟩ | ⟨er, q1⟩
          · have hst : stepR s l q = .inl (([(x : Int)], []), q1) := by simp [stepR, Rg.map, k7, hres]
            have hm := HM.out.step HRA.out.here HSK.out hst
            rw [hres] at hRd
            have HRD := Lib.hid hRd
            have HM2 := Lib.hid hm
            obtain ⟨hNk, hTq, _⟩ := HM.out
            have hqb := HRA.out.here
            clear hst hm hRd hres k1 k2 k3 k4 k5 k6 k7
            go_wp2_with (first
              | (go_at_call 26; refine (HRD.out).mono ?_; rintro e w2 ⟨⟨v, rfl, rfl⟩, hk2, hr2⟩; have HP2 := Lib.hid (HPA.out.kp hk2 (by simp [hne]) (by simpa using hRl)); have HK2 := Lib.hid (HKA.out.to hk2 (Z := [R, b]) (fun _ h _ => h) (fun y hy _ => by simp at hy; simp [hy])); have HR2 := Lib.hid hr2; clear hk2 hr2)
              | (go_at_call 48; refine (number_any W.heap.size b _ vN vT N T _ _ _ w2 HP2.out HK2.out.size (by omega)).mono ?_; rintro e w3 ⟨rfl, vN', hp3, hk3⟩; have HP3 := Lib.hid hp3; have HF := Lib.hid (num_kp HK2.out HP2.out HR2.out hk3 hBb hne hRl); clear hp3 hk3))
            go_roundw
            case rel => exact ⟨k + 1, q1, vN', vT, _, T, by omega, by go_num, by show MidP _ _ _ _ _ _; simpa using HM2.out, HP3.out, HF.out.2, HF.out.1⟩
            case measure => simp [intOf]; omega
          · have hst : stepR s l q = .inr (er, q1) := by simp [stepR, Rg.map, k7, hres]
            obtain ⟨hf1, hf2⟩ := HM.out.fail HSK.out hst
            rw [hres] at hRd
            have HRD := Lib.hid hRd
            have HF1 := Lib.hid hf1
            have HF2 := Lib.hid hf2
            have n1 : (s.k == 1) = false := by simp [k1]
            have n2 : (s.k == 2) = false := by simp [k2]
            have n3 : (s.k == 3) = false := by simp [k3]
            have n4 : (s.k == 4) = false := by simp [k4]
            have n5 : (s.k == 5) = false := by simp [k5]
            have n6 : (s.k == 6) = false := by simp [k6]
            have n7 : (s.k == 7) = true := by simp [k7]
            clear hst hf1 hf2 hRd hres k1 k2 k3 k4 k5 k6 k7
            go_wp2_with (first | (go_at_call 26; refine (HRD.out).mono ?_; rintro e w2 ⟨rfl, hk2, hr2⟩; have HP2 := Lib.hid (HPA.out.kp hk2 (by simp [hne]) (by simpa using hRl)); have HK2 := Lib.hid (HKA.out.to hk2 (Z := [R, b]) (fun _ h _ => h) (fun y hy _ => by simp at hy; simp [hy])); have HR2 := Lib.hid hr2; clear hk2 hr2))
            refine ⟨rfl, ?_⟩
            rw [HF1.out, HF2.out]
            exact ⟨rfl, ⟨vN, vT, HP2.out⟩, HK2.out, HR2.out⟩
      by_cases k8 : s.k = 8
      · as_aux_lemma =>
          have n1 : (s.k == 1) = false := by simp [k1]
          have n2 : (s.k == 2) = false := by simp [k2]
          have n3 : (s.k == 3) = false := by simp [k3]
          have n4 : (s.k == 4) = false := by simp [k4]
          have n5 : (s.k == 5) = false := by simp [k5]
          have n6 : (s.k == 6) = false := by simp [k6]
          have n7 : (s.k == 7) = false := by simp [k7]
          have n8 : (s.k == 8) = true := by simp [k8]
          have hmf : ∀ (fn : Fn) (first cap : Array Value) (w : World), (Instr.makeFunc fn first cap).run Tryd.prog w = .ok (.func fn first cap) w := fun _ _ _ _ => rfl
          obtain ⟨wb, hwb⟩ : ∃ wb, wa.alloc (.cells #[.int .i64 s.most] 84) = wb := ⟨_, rfl⟩
          have hbb : Below wa.heap.size wa wb := by rw [← hwb]; exact (Below.refl _ _).alloc (Nat.le_refl _) _
          have bG : Blk wb wa.heap.size 84 #[.int .i64 s.most] := by rw [← hwb]; exact Blk.new _ _ _
          have zb : wb.heap.size = wa.heap.size + 1 := by rw [← hwb]; simp
          have b1 : wb.cell? ⟨wo.heap.size, 1, none⟩ = some (.int .i64 s.most) := by rw [hbb.cell HBA.out.lt]; exact a1
          have b2 : wb.cell? ⟨wo.heap.size, 2, none⟩ = some (.int .i64 s.least) := by rw [hbb.cell HBA.out.lt]; exact a2
          have HPB := Lib.hid (HPA.out.later hbb)
          have HRB := Lib.hid (HRA.out.later hbb)
          have HKB := Lib.hid (HKA.out.to (Kp.of_below (X := []) hbb) (Z := [R, b]) (fun _ h _ => h) (fun _ h => by cases h))
          have hRd := rGet_any B R c q A l s.most s.least 44 #[.pointer (some ⟨wa.heap.size, 0, none⟩)] #[] (gText s.most) wb HRB.out (enter_of Tryd.func44 (by as_aux_lemma => kernel_rfl) (by as_aux_lemma => kernel_rfl)) (fun W' q' hkW hrW => get_any B R c q' wa.heap.size A l s.most W' hrW (by rw [hkW.cell (by simp; omega) (by simp; omega), bG.cell 0]; rfl))
          have hzA := HKA.out.size
          rcases hres : gGet s.most s.least (gText s.most) l q with ⟨L, q1⟩ | ⟨er, q1⟩
          · have hst : stepR s l q = .inl (([(L.length : Int)], L), q1) := by simp [stepR, Rg.map, k8, hres]
            have hm := HM.out.step HRA.out.here HSK.out hst
            rw [hres] at hRd
            have HRD := Lib.hid hRd
            have HM2 := Lib.hid hm
            obtain ⟨hNk, hTq, _⟩ := HM.out
            have hqb := HRA.out.here
            have hLl := gGet_at hres
            obtain ⟨hL1, hL2⟩ := hLl
            have HZB := Lib.hid zb
            clear hst hm hRd hres k1 k2 k3 k4 k5 k6 k7 k8 hbb bG zb
            go_wp2_with (first
              | (go_at_call 43
                 refine (HRD.out).mono ?_
                 rintro e w2 ⟨⟨v, rfl, A', c', rfl, ho⟩, hk2, hr2⟩
                 have HO2 := Lib.hid ho
                 have hza2 := hk2.size
                 have HP2 := Lib.hid (HPB.out.kp hk2 (by simp [hne]) (by simpa using hRl))
                 have HK2 := Lib.hid (HKB.out.to hk2 (Z := [R, b]) (fun _ h _ => h) (fun y hy _ => by simp at hy; simp [hy]))
                 have HR2 := Lib.hid hr2
                 clear ho hk2 hr2)
              | (go_at_call 48
                 refine (number_any W.heap.size b _ vN vT N T _ _ _ w2 HP2.out HK2.out.size (by omega)).mono ?_
                 rintro e w3 ⟨rfl, vN', hp3, hk3⟩
                 have HO3 := Lib.hid (own_kp HO2.out hk3 (fun y hy e => by
                   rcases List.mem_cons.1 hy with rfl | hy
                   · exact own_blk_ne HO2.out HP2.out.blk (by decide) e
                   · exact own_own_ne HP2.out.nums HO2.out (by decide) y (by simpa using hy) e))
                 have HP3 := Lib.hid hp3
                 have HF := Lib.hid (num_kp HK2.out HP2.out HR2.out hk3 hBb hne hRl)
                 have hza3 := hk3.size
                 clear hp3 hk3))
            have hsep : ∀ y, vT.ownBlock = some y → (Value.slice A' L.length c').ownBlock ≠ some y := fun y hy e => by
              have h1 := (HO3.out.lt y e).1
              have h2 := (HPA.out.txts.lt y hy).2
              have h3 := HZB.out
              omega
            have HSEP := Lib.hid hsep
            clear hsep b1 b2
            go_loopw [10] (fun j wx => ∃ (m : Nat) (vT2 : Value), m ≤ L.length ∧ j = .int .i64 m ∧ PlaySt wx W.heap.size b (.slice (some ⟨bS, off, none⟩) S.length sc) vN' vT2 (N ++ [(L.length : Int)]) (T ++ L.take m) (.pointer (some ⟨R, 0, none⟩)) (calls + 1) ∧ Rdr wx B R A c l q1 ∧ Kp [R, b] W wx ∧ wx.ownsRow wb.heap.size 9 1 (.slice A' L.length c') L.length (scells (L.map bs)) ∧ Hid (∀ y, vT2.ownBlock = some y → (Value.slice A' L.length c').ownBlock ≠ some y)) (fun j _ => L.length - (intOf j).toNat)
            case atStart => exact ⟨0, vT, Nat.zero_le _, rfl, by simpa using HP3.out, HF.out.2, HF.out.1, HO3.out, HSEP.out⟩
            case round =>
              obtain ⟨m, vT2, hmx, rfl, hp4, hr4, hk4, ho4, HS4⟩ := hrel
              have HP4 := Lib.hid hp4
              have HR4 := Lib.hid hr4
              have HK4 := Lib.hid hk4
              have HO4 := Lib.hid ho4
              by_cases hm : m < L.length
              · obtain ⟨g, cap, hv, hgb, hgl⟩ := ho4.form (by omega)
                injection hv with hA' hn' hc'
                subst hA'
                have hcell : wr.cell? ⟨g, m, none⟩ = some (.string ⟨(L[m]).toArray⟩) := by
                  rw [ho4.cellAt m (by omega)]
                  simp [scells, bs, List.getElem?_eq_getElem hm]
                have hTl : (T ++ L.take m).length + 1 ≤ 8796093022208 := by rw [List.length_append, List.length_take]; omega
                clear hp4 hr4 hk4 ho4 hn' hc'
                go_wp2_with (go_at_call 49
                             refine (text_any W.heap.size b _ vN' vT2 _ _ _ _ L[m] wr HP4.out HK4.out.size hTl).mono ?_
                             rintro e w5 ⟨rfl, vT5, hp5, hk5, hat5⟩
                             have HO5 := Lib.hid (own_kp HO4.out hk5 (fun y hy e => by
                               rcases List.mem_cons.1 hy with rfl | hy
                               · exact own_blk_ne HO4.out HP4.out.blk (by decide) e
                               · exact HS4.out y (by simpa using hy) e))
                             have HS5 : Hid (∀ y, vT5.ownBlock = some y → (Value.slice (some ⟨g, 0, none⟩) L.length c').ownBlock ≠ some y) := (fun y hy e => by
                               rcases hat5 with h | ⟨z, h, hz⟩
                               · exact HS4.out y (by rw [← h]; exact hy) e
                               · rw [h] at hy
                                 injection hy with hy
                                 have := (HO4.out.lt y e).2
                                 omega)
                             have HP5 := Lib.hid hp5
                             have HF5 := Lib.hid (txt_kp HK4.out HP4.out HR4.out hk5 hBb hne hRl)
                             clear hp5 hk5 hat5)
                go_roundw
                case rel => exact ⟨m + 1, vT5, by omega, by go_num, by rw [List.take_succ_eq_append_getElem hm, ← List.append_assoc]; exact HP5.out, HF5.out.2, HF5.out.1, HO5.out, HS5⟩
                case measure => simp [intOf]; omega
              · have hml : L.take m = L := List.take_of_length_le (by omega)
                rw [hml] at HP4
                clear hp4 hr4 hk4 ho4 hml
                go_wp2
                go_roundw
                case rel => exact ⟨k + 1, q1, vN', vT2, _, _, by omega, by go_num, by show MidP _ _ _ _ _ _; simpa using HM2.out, HP4.out, HR4.out, HK4.out⟩
                case measure => simp [intOf]; omega
          · have hst : stepR s l q = .inr (er, q1) := by simp [stepR, Rg.map, k8, hres]
            obtain ⟨hf1, hf2⟩ := HM.out.fail HSK.out hst
            rw [hres] at hRd
            have HRD := Lib.hid hRd
            have HF1 := Lib.hid hf1
            have HF2 := Lib.hid hf2
            clear hst hf1 hf2 hRd hres k1 k2 k3 k4 k5 k6 k7 k8 hbb bG zb
            go_wp2_with (go_at_call 43
                         refine (HRD.out).mono ?_
                         rintro e w2 ⟨rfl, hk2, hr2⟩
                         have HP2 := Lib.hid (HPB.out.kp hk2 (by simp [hne]) (by simpa using hRl))
                         have HK2 := Lib.hid (HKB.out.to hk2 (Z := [R, b]) (fun _ h _ => h) (fun y hy _ => by simp at hy; simp [hy]))
                         have HR2 := Lib.hid hr2
                         clear hk2 hr2)
            refine ⟨rfl, ?_⟩
            rw [HF1.out, HF2.out]
            exact ⟨rfl, ⟨vN, vT, HP2.out⟩, HK2.out, HR2.out⟩
      by_cases k9 : s.k = 9
      · as_aux_lemma =>
          have n1 : (s.k == 1) = false := by simp [k1]
          have n2 : (s.k == 2) = false := by simp [k2]
          have n3 : (s.k == 3) = false := by simp [k3]
          have n4 : (s.k == 4) = false := by simp [k4]
          have n5 : (s.k == 5) = false := by simp [k5]
          have n6 : (s.k == 6) = false := by simp [k6]
          have n7 : (s.k == 7) = false := by simp [k7]
          have n8 : (s.k == 8) = false := by simp [k8]
          have n9 : (s.k == 9) = true := by simp [k9]
          have hRd := left_any B R c q A l wa HRA.out
          have hst : stepR s l q = .inl (([((l.length - q : Nat) : Int)], []), q) := by simp [stepR, Rg.map, k9, gLeft]
          have hm := HM.out.step HRA.out.here HSK.out hst
          have HRD := Lib.hid hRd
          have HM2 := Lib.hid hm
          obtain ⟨hNk, hTq, _⟩ := HM.out
          have hqb := HRA.out.here
          clear hst hm hRd k1 k2 k3 k4 k5 k6 k7 k8 k9
          go_wp2_with (first
            | (go_at_call 27; refine (HRD.out).mono ?_; rintro e w2 ⟨rfl, n0, hw2⟩; have hk2 : Kp [] wa w2 := (by rw [hw2]; exact Kp.drewN n0); have hr2 : Rdr w2 B R A c l q := HRA.out.later (hk2.below'); have HP2 := Lib.hid (HPA.out.later hk2.below'); have HK2 := Lib.hid (HKA.out.to hk2 (Z := [R, b]) (fun _ h _ => h) (fun y hy _ => by cases hy)); have HR2 := Lib.hid hr2; clear hk2 hr2 hw2)
            | (go_at_call 48; refine (number_any W.heap.size b _ vN vT N T _ _ _ w2 HP2.out HK2.out.size (by omega)).mono ?_; rintro e w3 ⟨rfl, vN', hp3, hk3⟩; have HP3 := Lib.hid hp3; have HF := Lib.hid (num_kp HK2.out HP2.out HR2.out hk3 hBb hne hRl); clear hp3 hk3))
          go_roundw
          case rel => exact ⟨k + 1, q, vN', vT, _, T, by omega, by go_num, by show MidP _ _ _ _ _ _; simpa using HM2.out, HP3.out, HF.out.2, HF.out.1⟩
          case measure => simp [intOf]; omega
      by_cases k10 : s.k = 10
      · as_aux_lemma =>
          have n1 : (s.k == 1) = false := by simp [k1]
          have n2 : (s.k == 2) = false := by simp [k2]
          have n3 : (s.k == 3) = false := by simp [k3]
          have n4 : (s.k == 4) = false := by simp [k4]
          have n5 : (s.k == 5) = false := by simp [k5]
          have n6 : (s.k == 6) = false := by simp [k6]
          have n7 : (s.k == 7) = false := by simp [k7]
          have n8 : (s.k == 8) = false := by simp [k8]
          have n9 : (s.k == 9) = false := by simp [k9]
          have n10 : (s.k == 10) = true := by simp [k10]
          by_cases hn : s.n = 0
          · have hRd := fail_zero B R c q A l wa HRA.out
            have hst : stepR s l q = .inl (([], []), q) := by simp [stepR, Rg.map, k10, gFail, hn]
            have hm := HM.out.step HRA.out.here HSK.out hst
            have HRD := Lib.hid hRd
            have HM2 := Lib.hid hm
            rw [hn] at a3
            clear hst hm hRd hn k1 k2 k3 k4 k5 k6 k7 k8 k9 k10
            go_wp2_with (go_at_call 42; refine (HRD.out).mono ?_; rintro e w2 ⟨rfl, rfl⟩)
            go_roundw
            case rel => exact ⟨k + 1, q, vN, vT, N, T, by omega, by go_num, by show MidP _ _ _ _ _ _; simpa using HM2.out, HPA.out, HRA.out, HKA.out⟩
            case measure => simp [intOf]; omega
          · have hRd := fail_any B R c q A l s.n (by simpa using hn) wa HRA.out
            have hst : stepR s l q = .inr (s.n, q) := by simp [stepR, Rg.map, k10, gFail, hn]
            obtain ⟨hf1, hf2⟩ := HM.out.fail HSK.out hst
            have HRD := Lib.hid hRd
            have HF1 := Lib.hid hf1
            have HF2 := Lib.hid hf2
            clear hst hf1 hf2 hRd hn k1 k2 k3 k4 k5 k6 k7 k8 k9 k10
            go_wp2_with (go_at_call 42; refine (HRD.out).mono ?_; rintro e w2 ⟨rfl, rfl⟩)
            refine ⟨rfl, ?_⟩
            rw [HF1.out, HF2.out]
            exact ⟨rfl, ⟨vN, vT, HPA.out⟩, HKA.out, HRA.out⟩
      · as_aux_lemma =>
          have n1 : (s.k == 1) = false := by simp [k1]
          have n2 : (s.k == 2) = false := by simp [k2]
          have n3 : (s.k == 3) = false := by simp [k3]
          have n4 : (s.k == 4) = false := by simp [k4]
          have n5 : (s.k == 5) = false := by simp [k5]
          have n6 : (s.k == 6) = false := by simp [k6]
          have n7 : (s.k == 7) = false := by simp [k7]
          have n8 : (s.k == 8) = false := by simp [k8]
          have n9 : (s.k == 9) = false := by simp [k9]
          have n10 : (s.k == 10) = false := by simp [k10]
          have hst : stepR s l q = .inl (([], []), q) := by simp [stepR, k1, k2, k3, k4, k5, k6, k7, k8, k9, k10, Rg.ret]
          have hm := HM.out.step HRA.out.here HSK.out hst
          have HM2 := Lib.hid hm
          clear hst hm k1 k2 k3 k4 k5 k6 k7 k8 k9 k10
          go_wp2
          go_roundw
          case rel => exact ⟨k + 1, q, vN, vT, N, T, by omega, by go_num, by show MidP _ _ _ _ _ _; simpa using HM2.out, HPA.out, HRA.out, HKA.out⟩
          case measure => simp [intOf]; omega
    · obtain ⟨hd1, hd2⟩ := HM.out.done (by omega)
      have HD1 := Lib.hid hd1
      have HD2 := Lib.hid hd2
      clear hd1 hd2 hp hr hkp
      go_wp2
      go_end0
      rw [HD1.out, HD2.out]
      exact ⟨⟨_, rfl⟩, ⟨vN, vT, HP.out⟩, HKP.out, HRd.out⟩
end Go.Proofs.YtbegingiedbldaaDoor
