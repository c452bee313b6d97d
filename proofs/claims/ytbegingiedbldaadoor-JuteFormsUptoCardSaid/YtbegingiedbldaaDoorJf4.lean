/- JuteForms: the walk. -/
import Derived.Test.YtbegingiedbldaaDoorJf3
import Derived.Deep.RegionHeld3
import Derived.Deep.RegionLaw
namespace Go.Proofs.YtbegingiedbldaaDoor
open Go.RowKit

theorem FLoop.next {l : List UInt8} {S : List St} {w wr : World} {k q q1 nn c : Nat} {N : List Int} {T : List (List UInt8)} {V : List Vl} {z most : Int} {g : Gt} {A : Option Addr} {v3 : Value} (hF : FormMid l S k q N T V) (hk : S[k]? = some ⟨z, most, 0, 0⟩) (hz : 1 ≤ z ∧ z ≤ 8) (hs : stepR ⟨z, most, 0, 0⟩ l q = .inl (g, q1))
    (hV : ∀ x ∈ V, Reads w w.heap.size 1 x.A x.n (scells x.L) ∧ x.n ≤ 1099511627776) (hn : nn = if z = 8 then g.2.length else 0) (hx : Reads w w.heap.size 1 A nn (scells (if z = 8 then g.2.map bs else [])) ∧ nn ≤ 1099511627776)
    (ho : wr.ownsRow w.heap.size 68 4 v3 (V.length + 1) (V.flatMap vlCells ++ vlCells (vlOf z g A nn c))) (hb : Below w.heap.size w wr) : FLoop l S w (k + 1) (N ++ g.1) (T ++ g.2) v3 wr := by
  subst hn
  refine ⟨q1, _, (hF.step hk hz hs (A := A) (c := c)).1, fun x h => ?_, ?_, hb⟩
  · rcases List.mem_append.1 h with h | h
    · exact hV x h
    · rw [List.mem_singleton.1 h]
      exact hx
  · rw [List.length_append, List.flatMap_append]
    simpa using ho

theorem reads_head {w : World} {B n k : Nat} {A : Option Addr} {l : List UInt8} (h : Reads w B 1 A n (bcells l)) (hk : k ≤ n) : Reads w B 1 A k (bcells (l.take k)) := by
  have hl : l.length = n := by have := h.1; rw [bcells_length] at this; omega
  refine ⟨by rw [bcells_length, List.length_take]; omega, fun hk => ?_⟩
  obtain ⟨ad, rfl, hb, hc⟩ := h.2 (by omega)
  refine ⟨ad, rfl, hb, fun j u hu => hc j u ?_⟩
  rw [bcells_get] at hu ⊢
  rw [List.getElem?_take] at hu
  split at hu
  · exact hu
  · cases hu


set_option maxRecDepth 100000 in
set_option maxHeartbeats 8000000 in
theorem formsLaw_any (A0 Ak : Option Addr) (n0 c0 nk ck : Nat) (b : List UInt8) (K : List Int) (most : Int) (w : World) (hE : Env w)
    (h0 : Reads w w.heap.size 1 A0 n0 (bcells b)) (hnc : n0 ≤ c0) (hz0 : A0 = none → c0 = 0) (hK : Reads w w.heap.size 1 Ak nk (icells K)) (hn0 : n0 ≤ 1048576) (hnk : nk ≤ 1048576) :
    Calls Tryd.prog 6 #[.slice A0 n0 c0, .slice Ak nk ck, .int .i64 most] w fun e w' => e = .returned (.bool true) ∧ Below w.heap.size w w' := by
  have hl0 : b.length = n0 := by have := h0.1; rw [bcells_length] at this; omega
  have hl1 : K.length = nk := by have := hK.1; rw [icells_length] at this; omega
  subst hl0 hl1
  have hmf : ∀ (fn : Fn) (first cap : Array Value) (w : World), (Instr.makeFunc fn first cap).run Tryd.prog w = .ok (.func fn first cap) w := fun _ _ _ _ => rfl
  obtain ⟨ii0, fi0, fq0, fq1, fq2⟩ := info_parts fst_info
  obtain ⟨jj0, fj0, fy0, fy1, fy2⟩ := info_parts vl_info
  have HE := Lib.hid hE
  have H0 := Lib.hid h0
  have HK := Lib.hid hK
  have HZ0 := Lib.hid hz0
  clear hE h0 hK hz0
  go_enter Tryd.func6, Tryd.ntmps6
  go_wp2_with (
    (go_at_call 17
     refine (live_any w HE.out).mono ?_
     rintro e w1 ⟨rfl, hb1⟩
     have HB1 := Lib.hid hb1
     clear hb1))
  go_loopw [7, 8] (fun o i wr => ∃ (k : Nat) (v1 : Value), k ≤ K.length ∧ v1 = o ∧ i = .int .i64 k ∧ wr.ownsRow w1.heap.size 53 4 v1 (fmS most (K.take k)).length ((fmS most (K.take k)).flatMap stCells) ∧ Below w1.heap.size w1 wr) (fun _ i _ => K.length - (intOf i).toNat)
  case atStart => exact ⟨0, _, Nat.zero_le _, rfl, rfl, World.ownsRow_nil _ _ _ _, Below.refl _ _⟩
  case round =>
    obtain ⟨wo, rfl⟩ : ∃ wo : World, wo = wr := ⟨_, rfl⟩
    obtain ⟨k, v1, hk, rfl, rfl, hO, hB⟩ := hrel
    have hzw := hB.size
    have HO := Lib.hid hO
    have HB := Lib.hid hB
    have HB2 : Hid (Below w.heap.size w wo) := HB1.out.trans (hB.mono HB1.out.size)
    clear hO hB
    by_cases hlt : k < K.length
    · obtain ⟨z, hz⟩ : ∃ z, K[k]? = some z := ⟨_, List.getElem?_eq_getElem hlt⟩
      obtain ⟨ad, rfl, hc⟩ := reads_int (HK.out.below HB2.out) hlt
      rw [show K[k] = z by rw [List.getElem?_eq_getElem hlt] at hz; exact Option.some.inj hz] at hc
      have HZK := Lib.hid hz
      have hln := fmS_len most (K.take k)
      have hlk : (K.take k).length = k := by rw [List.length_take]; omega
      rw [hlk] at hln
      clear hz hlk
      have hi0 : (0 : Int) ≤ k := by omega
      have hi1 : (k : Int) < K.length := by omega
      by_cases z1 : 1 ≤ z
      · by_cases z8 : z ≤ 8
        · as_aux_lemma =>
            have HFK : Hid (fmS most (K.take (k + 1)) = fmS most (K.take k) ++ [⟨z, most, 0, 0⟩]) := by unfold Hid; rw [fmS_snoc most K k z HZK.out]; simp [fmK, z1, z8]
            go_wp2_with (at_builtin; refine wpList_append_any _ rfl (.tmp 38) (.tmp 45) _ rfl w1.heap.size 53 ii0 _ 4 32 Tryd.underlying23 fi0 fq0 fq1 fq2 rfl (by decide) v1 (fmS most (K.take k)).length ((fmS most (K.take k)).flatMap stCells) rfl (World.ownsRow.alloc HO.out _) (wo.heap.size + 1) (some ⟨wo.heap.size, 0, none⟩) 1 1 (stCells ⟨z, most, 0, 0⟩) rfl (by exact reads_lits wo 53 [_, _, _, _] 4 1 rfl) (fst_one _) (by simp only [maxLen]; omega) (by omega) (by have := HB.out.size; simp; omega) ?_; intro v3 w3 ho3 hg3 hat3; have HO3 : Hid (w3.ownsRow w1.heap.size 53 4 v3 (fmS most (K.take (k + 1))).length ((fmS most (K.take (k + 1))).flatMap stCells)) := (by unfold Hid; rw [HFK.out, List.length_append, List.flatMap_append]; simpa using ho3); have HB3 := Lib.hid ((HB.out.alloc HB.out.size _).grown hg3 (by have := HB.out.size; simp; omega) (fun x hx => (HO.out.lt x hx).1)); clear ho3 hg3 hat3)
            go_roundw
            case rel => exact ⟨k + 1, v3, by omega, rfl, by go_num, HO3.out, HB3.out⟩
            case measure => simp [intOf]; omega
        · as_aux_lemma =>
            have HFK : Hid (fmS most (K.take (k + 1)) = fmS most (K.take k)) := by unfold Hid; rw [fmS_snoc most K k z HZK.out]; simp [fmK, z8]
            go_wp2
            go_roundw
            case rel => exact ⟨k + 1, v1, by omega, rfl, by go_num, by rw [HFK.out]; exact HO.out, HB.out⟩
            case measure => simp [intOf]; omega
      · as_aux_lemma =>
          have HFK : Hid (fmS most (K.take (k + 1)) = fmS most (K.take k)) := by unfold Hid; rw [fmS_snoc most K k z HZK.out]; simp [fmK, z1]
          go_wp2
          go_roundw
          case rel => exact ⟨k + 1, v1, by omega, rfl, by go_num, by rw [HFK.out]; exact HO.out, HB.out⟩
          case measure => simp [intOf]; omega
    · have hkl : K.take k = K := List.take_of_length_le (by omega)
      have hO := HO.out
      rw [hkl] at hO
      have hSl := fmS_len most K
      have hfe : rE (play (fmS most K) b 0).2 = 0 → ∃ q, (play (fmS most K) b 0).2 = .inl q := form_end
      have hpa := play_at (fmS most K) b 0 (Nat.zero_le _)
      have hpc := play_counts (fmS most K) b 0 (Nat.zero_le _)
      have hsk : ∀ s ∈ fmS most K, ∃ k, s = ⟨k, most, 0, 0⟩ ∧ 1 ≤ k ∧ k ≤ 8 := fun s hs => fmS_kind hs
      obtain ⟨S, hS⟩ : ∃ S, S = fmS most K := ⟨_, rfl⟩
      rw [← hS] at hO hSl hfe hpa hpc hsk
      have hpre : ∀ k q N T, MidP b S k q N T → ∃ N' T', (play S b 0).1.1 = N ++ N' ∧ (play S b 0).1.2 = T ++ T' := fun _ _ _ _ h => h.pre
      have hok : ∀ k q N T s, MidP b S k q N T → S[k]? = some s → (∃ q', (play S b 0).2 = .inl q') → ∃ g q1, stepR s b q = .inl (g, q1) := fun _ _ _ _ _ h1 h2 h3 => mid_ok h1 h2 h3
      have hdone : ∀ k q N T, MidP b S k q N T → S.length ≤ k → (play S b 0).1 = (N, T) ∧ (play S b 0).2 = .inl q := fun _ _ _ _ h h2 => h.done h2
      have hstart : FormMid b S 0 0 [] [] [] := ⟨⟨Nat.le_refl _, Nat.le_refl _, by simp, by simp, by simp⟩, Nat.zero_le _, by simp, rfl⟩
      obtain ⟨P, hP⟩ : ∃ P, P = play S b 0 := ⟨_, rfl⟩
      rw [← hP] at hfe hpa hpc
      simp only [← hP] at hpre hok hdone
      have HPE := Lib.hid hP
      have HFE := Lib.hid hfe
      have HPRE := Lib.hid hpre
      have HOK := Lib.hid hok
      have HDONE := Lib.hid hdone
      have HSTART := Lib.hid hstart
      have HSKD := Lib.hid hsk
      obtain ⟨SA, sc, rfl⟩ := slice_form hO
      have HOS := Lib.hid hO
      obtain ⟨w2, hw2⟩ : ∃ w2, wo.alloc (.cells #[.slice SA S.length sc, .slice none 0 0, .slice none 0 0, .pointer none, .int .i64 0] 31) = w2 := ⟨_, rfl⟩
      have hb2 : Below wo.heap.size wo w2 := by rw [← hw2]; exact (Below.refl _ _).alloc (Nat.le_refl _) _
      have HP2 : Hid (Blk w2 wo.heap.size 31 #[.slice SA S.length sc, .slice none 0 0, .slice none 0 0, .pointer none, .int .i64 0]) := by unfold Hid; rw [← hw2]; exact Blk.new _ _ _
      have HBO2 := Lib.hid hb2
      have HB02 : Hid (Below w.heap.size w w2) := HB2.out.trans (hb2.mono HB2.out.size)
      clear hfe hpre hok hdone hstart hsk hO hP hb2 hkl hS HO
      by_cases hf : rE P.2 = 0
      rotate_left
      · as_aux_lemma =>
        have hf0 : (rE P.2 != 0) = true := by simp [hf]
        have hat : (rAt P.2 : Int) ≤ b.length := by omega
        have hat0 : (0 : Int) ≤ rAt P.2 := by omega
        clear hf
        go_wp2_with (first
          | (go_at_call 11
             have hrd := readPlay_any A0 SA b.length c0 S.length sc wo.heap.size wo.heap.size b S (.pointer none) 0 w2 ((H0.out.below HB02.out).more HB02.out.size) hnc (by omega) HZ0.out (HE.out.below HB02.out) HP2.out ((Reads.of_own HOS.out).below HBO2.out) (Nat.le_refl _) (by omega) (by omega) (by omega) (fun hp ad e => by
               obtain ⟨ad', e', hb', _⟩ := H0.out.2 hp
               rw [e] at e'
               obtain rfl := Option.some.inj e'
               have := HB2.out.size
               omega) ⟨by have := HE.out.g1; have := HB2.out.size; omega, by have := HE.out.g2; have := HB2.out.size; omega⟩
             rw [← HPE.out] at hrd
             with_reducible refine hrd.mono ?_
             clear hrd
             rintro e w3 ⟨rfl, hk3, ⟨vN, vT, hp3⟩, _⟩
             obtain ⟨pN, dN, rfl⟩ := slice_form hp3.nums
             obtain ⟨pT, dT, rfl⟩ := slice_form hp3.txts
             have HP3 := Lib.hid hp3
             have HK3 := Lib.hid hk3
             clear hk3 hp3)
          | (go_at_call 14; (with_reducible refine (no_any _ _).mono ?_); rintro e w10 ⟨rfl, rfl⟩))
        have HB03 : Hid (Below w.heap.size w w3) := HB02.out.trans (HK3.out.below (by simp; exact HB2.out.size) HB02.out.size)
        go_ret
        exact ⟨rfl, HB03.out⟩
      obtain ⟨q0, hq0e⟩ := HFE.out hf
      have hf0 : (rE P.2 != 0) = false := by simp [hf]
      have hrq : rAt P.2 = q0 := by rw [hq0e]; rfl
      have HQE := Lib.hid hq0e
      have HF0 := Lib.hid hf0
      clear hf hq0e
      go_wp2_with (first
        | (go_at_call 11
           have hrd := readPlay_any A0 SA b.length c0 S.length sc wo.heap.size wo.heap.size b S (.pointer none) 0 w2 ((H0.out.below HB02.out).more HB02.out.size) hnc (by omega) HZ0.out (HE.out.below HB02.out) HP2.out ((Reads.of_own HOS.out).below HBO2.out) (Nat.le_refl _) (by omega) (by omega) (by omega) (fun hp ad e => by
             obtain ⟨ad', e', hb', _⟩ := H0.out.2 hp
             rw [e] at e'
             obtain rfl := Option.some.inj e'
             have := HB2.out.size
             omega) ⟨by have := HE.out.g1; have := HB2.out.size; omega, by have := HE.out.g2; have := HB2.out.size; omega⟩
           rw [← HPE.out] at hrd
           with_reducible refine hrd.mono ?_
           clear hrd
           rintro e w3 ⟨rfl, hk3, ⟨vN, vT, hp3⟩, _⟩
           obtain ⟨pN, dN, rfl⟩ := slice_form hp3.nums
           obtain ⟨pT, dT, rfl⟩ := slice_form hp3.txts
           have HP3 := Lib.hid hp3
           have HK3 := Lib.hid hk3
           clear hk3 hp3)
        | (go_at_call 14; (with_reducible refine (no_any _ _).mono ?_); rintro e w10 ⟨rfl, rfl⟩))
      have HB03 : Hid (Below w.heap.size w w3) := HB02.out.trans (HK3.out.below (by simp; exact HB2.out.size) HB02.out.size)
      have hz23 : w2.heap.size ≤ w3.heap.size := HK3.out.size
      have HOS3 : Hid (w3.ownsRow w1.heap.size 53 4 (.slice SA S.length sc) S.length (S.flatMap stCells)) := own_kp (own_kp HOS.out (Kp.of_below (X := []) HBO2.out) (fun _ h => by cases h)) HK3.out (fun x hx e => by have := (HOS.out.lt x e).2; simp at hx; omega)
      have hz2 : wo.heap.size < w2.heap.size := HP2.out.lt
      have HRT := Lib.hid (Reads.of_own HP3.out.txts)
      have HRN := Lib.hid (Reads.of_own HP3.out.nums)
      have hcT := (own_cap HP3.out.txts).1
      have HCT := Lib.hid (own_cap HP3.out.txts).2
      have HZ23 := Lib.hid hz23
      have HZ2 := Lib.hid hz2
      clear hz23 hz2
      go_loopw [12, 13, 14, 15] (fun o nu tx i wr => ∃ (k : Nat) (vV : Value) (N : List Int) (T : List (List UInt8)), k ≤ S.length ∧ vV = o ∧ nu = .int .i64 N.length ∧ tx = .int .i64 T.length ∧ i = .int .i64 k ∧ FLoop b S w3 k N T vV wr) (fun _ _ _ i _ => S.length - (intOf i).toNat)
      case atStart => exact ⟨0, _, [], [], Nat.zero_le _, rfl, rfl, rfl, rfl, 0, [], HSTART.out, (fun x hx => by simp at hx), World.ownsRow_nil _ _ _ _, Below.refl _ _⟩
      case round =>
        clear HSTART
        obtain ⟨wv, rfl⟩ : ∃ wv : World, wv = wr := ⟨_, rfl⟩
        obtain ⟨k, vV, N, T, hk, rfl, rfl, rfl, rfl, q, V, hF, hV, hO, hB⟩ := hrel
        have hVl := hF.2.2.2
        have hzv := hB.size
        have HF := Lib.hid hF
        have HV := Lib.hid hV
        have HO := Lib.hid hO
        have HB3 := Lib.hid hB
        have hpw := HP3.out.later hB
        have HPW := Lib.hid hpw
        have p1 : wv.cell? ⟨wo.heap.size, 1, none⟩ = some (.slice pN P.1.1.length dN) := by rw [hpw.blk.cell 1]; rfl
        have p2 : wv.cell? ⟨wo.heap.size, 2, none⟩ = some (.slice pT P.1.2.length dT) := by rw [hpw.blk.cell 2]; rfl
        clear hF hV hO hB hpw
        by_cases hlt : k < S.length
        · obtain ⟨s, hs⟩ : ∃ s, S[k]? = some s := ⟨_, List.getElem?_eq_getElem hlt⟩
          obtain ⟨g, q1, hst⟩ := HOK.out k q N T s HF.out.1 hs ⟨q0, HQE.out⟩
          obtain ⟨z, rfl, hz1, hz8⟩ := HSKD.out s (List.mem_of_getElem? hs)
          obtain ⟨hnext, hshape⟩ := HF.out.step hs ⟨hz1, hz8⟩ hst (A := none) (c := 0)
          obtain ⟨N', T', hpN, hpT⟩ := HPRE.out _ _ _ _ hnext.1
          obtain ⟨bS, off, rfl, hbS, hcs⟩ := rows_at (f := stCells) (q := 4) (by decide) (fun _ => rfl) ((Reads.of_own HOS3.out).below HB3.out) k _ hs
          have e0 := hcs 0 _ rfl
          simp only [Nat.add_zero] at e0
          have HSK := Lib.hid hs
          have HST := Lib.hid hst
          have HZ : Hid (1 ≤ z ∧ z ≤ 8) := ⟨hz1, hz8⟩
          have HPN := Lib.hid hpN
          have HPT := Lib.hid hpT
          obtain ⟨wa, hwa⟩ : ∃ wa, wv.alloc (.cells #[.int .i64 z, .int .i64 0, .string ⟨#[]⟩, .slice none 0 0] 68) = wa := ⟨_, rfl⟩
          have hba : Below wv.heap.size wv wa := by rw [← hwa]; exact (Below.refl _ _).alloc (Nat.le_refl _) _
          have bA : Blk wa wv.heap.size 68 #[.int .i64 z, .int .i64 0, .string ⟨#[]⟩, .slice none 0 0] := by rw [← hwa]; exact Blk.new _ _ _
          have hs1 : wa.setCell ⟨wv.heap.size, 1, none⟩ (.int .i64 0) = wa := by rw [← hwa, World.setCell_alloc_at _ _ _ _ _ rfl]; rfl
          have hs2 : wa.setCell ⟨wv.heap.size, 2, none⟩ (.string ⟨#[]⟩) = wa := by rw [← hwa, World.setCell_alloc_at _ _ _ _ _ rfl]; rfl
          have hs3 : wa.setCell ⟨wv.heap.size, 3, none⟩ (.slice none 0 0) = wa := by rw [← hwa, World.setCell_alloc_at _ _ _ _ _ rfl]; rfl
          have a0 : wa.cell? ⟨wv.heap.size, 0, none⟩ = some (.int .i64 z) := by rw [bA.cell 0]; rfl
          have a1 : wa.cell? ⟨wv.heap.size, 1, none⟩ = some (.int .i64 0) := by rw [bA.cell 1]; rfl
          have a2 : wa.cell? ⟨wv.heap.size, 2, none⟩ = some (.string ⟨#[]⟩) := by rw [bA.cell 2]; rfl
          have a3 : wa.cell? ⟨wv.heap.size, 3, none⟩ = some (.slice none 0 0) := by rw [bA.cell 3]; rfl
          have f0 := bA.frozen 0
          have f1 := bA.frozen 1
          have f2 := bA.frozen 2
          have f3 := bA.frozen 3
          have pa1 : wa.cell? ⟨wo.heap.size, 1, none⟩ = some (.slice pN P.1.1.length dN) := by rw [((HPW.out.later hba).blk).cell 1]; rfl
          have pa2 : wa.cell? ⟨wo.heap.size, 2, none⟩ = some (.slice pT P.1.2.length dT) := by rw [((HPW.out.later hba).blk).cell 2]; rfl
          have hpl := HPW.out.blk.lt
          have HBA := Lib.hid hba
          have HbA := Lib.hid bA
          have hNT : N.length ≤ S.length ∧ T.length ≤ b.length := by
            have h1 := congrArg List.length hpN
            have h2 := congrArg List.length hpT
            simp only [List.length_append] at h1 h2
            omega
          clear hs hst hcs hba bA hnext
          by_cases hzk : z = 5
          · as_aux_lemma =>
              subst hzk
              obtain ⟨x, rfl⟩ : ∃ x, g = ([], [x]) := by simpa [GtShape] using hshape
              have hTl : T.length < (P.1.2.map bs).length := by rw [HPT.out]; simp
              have hRt : Reads w3 w3.heap.size 1 pT (P.1.2.map bs).length (scells (P.1.2.map bs)) := by rw [List.length_map]; exact HRT.out
              obtain ⟨ad, hpTe, hc⟩ := reads_str (hRt.below (HB3.out.trans (HBA.out.mono HB3.out.size))) hTl
              have hbx : (P.1.2.map bs)[T.length] = bs x := by simp [HPT.out]
              rw [hbx] at hc
              rw [List.length_map] at hTl
              rw [hpTe] at p2 pa2
              clear hpTe hshape hRt hbx
              obtain ⟨bx, hbx⟩ : ∃ bx, bx = bs x := ⟨_, rfl⟩
              rw [← hbx] at hc
              obtain ⟨wc, hwc⟩ : ∃ wc, wa.setCell ⟨wv.heap.size, 2, none⟩ (.string bx) = wc := ⟨_, rfl⟩
              have hbc : Below wv.heap.size wv wc := by rw [← hwc]; exact HBA.out.setCell (Nat.le_refl _) _
              have bC : Blk wc wv.heap.size 68 #[.int .i64 5, .int .i64 0, .string bx, .slice none 0 0] := by rw [← hwc]; exact HbA.out.set_ 2 _
              have c0' : wc.cell? ⟨wv.heap.size, 0, none⟩ = some (.int .i64 (5)) := by rw [bC.cell 0]; rfl
              have c1' : wc.cell? ⟨wv.heap.size, 1, none⟩ = some (.int .i64 (0)) := by rw [bC.cell 1]; rfl
              have c2' : wc.cell? ⟨wv.heap.size, 2, none⟩ = some (.string bx) := by rw [bC.cell 2]; rfl
              have c3' : wc.cell? ⟨wv.heap.size, 3, none⟩ = some (.slice none 0 0) := by rw [bC.cell 3]; rfl
              have HBW : Hid (Below w3.heap.size w3 wc) := HB3.out.trans (hbc.mono HB3.out.size)
              have HOW : Hid (wc.ownsRow w3.heap.size 68 4 vV V.length (V.flatMap vlCells)) := own_kp HO.out (Kp.of_below (X := []) hbc) (fun _ h => by cases h)
              have HNN : Hid ((0 : Nat) = if (5 : Int) = 8 then ([x] : List (List UInt8)).length else 0) := by unfold Hid; simp
              have HX : Hid (Reads w3 w3.heap.size 1 none 0 (scells (if (5 : Int) = 8 then ([x] : List (List UInt8)).map bs else [])) ∧ 0 ≤ 1099511627776) := ⟨by simpa [scells] using reads_zero w3 w3.heap.size none, by omega⟩
              have HA : Hid (vlCells (vlOf 5 ([], [x]) none 0 0) = [.int .i64 5, .int .i64 0, .string bx, .slice none 0 0]) := by unfold Hid; rw [hbx]; simp [vlCells, vlOf]
              have hi0 : (0 : Int) ≤ T.length := by omega
              have hi1 : (T.length : Int) < P.1.2.length := by omega
              clear bC hbx hbc
              go_wp2_with (at_builtin; refine wpList_append_any _ rfl (.tmp 158) (.tmp 160) _ rfl w3.heap.size 68 jj0 _ 4 56 Tryd.underlying66 fj0 fy0 fy1 fy2 rfl (by decide) vV V.length (V.flatMap vlCells) rfl (World.ownsRow.alloc HOW.out _) (wc.heap.size + 1) (some ⟨wc.heap.size, 0, none⟩) 1 1 (vlCells (vlOf (5) (([], [x])) none (0) (0))) rfl (by rw [HA.out]; exact reads_lits wc 68 [_, _, _, _] 4 1 rfl) (vl_one _) (by simp only [maxLen]; omega) (by omega) (by have := HBW.out.size; simp; omega) ?_; intro v5 w5 ho5 hg5 hat5; have HM5 : Hid (FLoop b S w3 (k + 1) (N) (T ++ [x]) v5 w5) := (by unfold Hid; have h := FLoop.next (most := most) HF.out HSK.out HZ.out HST.out HV.out HNN.out HX.out ho5 ((HBW.out.alloc HBW.out.size _).grown hg5 (by have := HBW.out.size; simp; omega) (fun x hx => (HOW.out.lt x hx).1)); simpa using h); clear ho5 hg5 hat5)
              go_roundw
              case rel => exact ⟨k + 1, v5, N, T ++ [x], by omega, rfl, by first | rfl | (rw [List.length_append]; go_num), by first | rfl | (rw [List.length_append]; go_num), by go_num, HM5.out⟩
              case measure => simp [intOf]; omega
          ·
            have n5 : (z == 5) = false := by simp [hzk]
            have z5 : ¬ z = 5 := hzk
            clear hzk
            by_cases hzk : z = 6
            · as_aux_lemma =>
                subst hzk
                obtain ⟨x, rfl⟩ : ∃ x, g = ([], [x]) := by simpa [GtShape] using hshape
                have hTl : T.length < (P.1.2.map bs).length := by rw [HPT.out]; simp
                have hRt : Reads w3 w3.heap.size 1 pT (P.1.2.map bs).length (scells (P.1.2.map bs)) := by rw [List.length_map]; exact HRT.out
                obtain ⟨ad, hpTe, hc⟩ := reads_str (hRt.below (HB3.out.trans (HBA.out.mono HB3.out.size))) hTl
                have hbx : (P.1.2.map bs)[T.length] = bs x := by simp [HPT.out]
                rw [hbx] at hc
                rw [List.length_map] at hTl
                rw [hpTe] at p2 pa2
                clear hpTe hshape hRt hbx
                obtain ⟨bx, hbx⟩ : ∃ bx, bx = bs x := ⟨_, rfl⟩
                rw [← hbx] at hc
                obtain ⟨wc, hwc⟩ : ∃ wc, wa.setCell ⟨wv.heap.size, 2, none⟩ (.string bx) = wc := ⟨_, rfl⟩
                have hbc : Below wv.heap.size wv wc := by rw [← hwc]; exact HBA.out.setCell (Nat.le_refl _) _
                have bC : Blk wc wv.heap.size 68 #[.int .i64 6, .int .i64 0, .string bx, .slice none 0 0] := by rw [← hwc]; exact HbA.out.set_ 2 _
                have c0' : wc.cell? ⟨wv.heap.size, 0, none⟩ = some (.int .i64 (6)) := by rw [bC.cell 0]; rfl
                have c1' : wc.cell? ⟨wv.heap.size, 1, none⟩ = some (.int .i64 (0)) := by rw [bC.cell 1]; rfl
                have c2' : wc.cell? ⟨wv.heap.size, 2, none⟩ = some (.string bx) := by rw [bC.cell 2]; rfl
                have c3' : wc.cell? ⟨wv.heap.size, 3, none⟩ = some (.slice none 0 0) := by rw [bC.cell 3]; rfl
                have HBW : Hid (Below w3.heap.size w3 wc) := HB3.out.trans (hbc.mono HB3.out.size)
                have HOW : Hid (wc.ownsRow w3.heap.size 68 4 vV V.length (V.flatMap vlCells)) := own_kp HO.out (Kp.of_below (X := []) hbc) (fun _ h => by cases h)
                have HNN : Hid ((0 : Nat) = if (6 : Int) = 8 then ([x] : List (List UInt8)).length else 0) := by unfold Hid; simp
                have HX : Hid (Reads w3 w3.heap.size 1 none 0 (scells (if (6 : Int) = 8 then ([x] : List (List UInt8)).map bs else [])) ∧ 0 ≤ 1099511627776) := ⟨by simpa [scells] using reads_zero w3 w3.heap.size none, by omega⟩
                have HA : Hid (vlCells (vlOf 6 ([], [x]) none 0 0) = [.int .i64 6, .int .i64 0, .string bx, .slice none 0 0]) := by unfold Hid; rw [hbx]; simp [vlCells, vlOf]
                have hi0 : (0 : Int) ≤ T.length := by omega
                have hi1 : (T.length : Int) < P.1.2.length := by omega
                clear bC hbx hbc
                go_wp2_with (at_builtin; refine wpList_append_any _ rfl (.tmp 158) (.tmp 160) _ rfl w3.heap.size 68 jj0 _ 4 56 Tryd.underlying66 fj0 fy0 fy1 fy2 rfl (by decide) vV V.length (V.flatMap vlCells) rfl (World.ownsRow.alloc HOW.out _) (wc.heap.size + 1) (some ⟨wc.heap.size, 0, none⟩) 1 1 (vlCells (vlOf (6) (([], [x])) none (0) (0))) rfl (by rw [HA.out]; exact reads_lits wc 68 [_, _, _, _] 4 1 rfl) (vl_one _) (by simp only [maxLen]; omega) (by omega) (by have := HBW.out.size; simp; omega) ?_; intro v5 w5 ho5 hg5 hat5; have HM5 : Hid (FLoop b S w3 (k + 1) (N) (T ++ [x]) v5 w5) := (by unfold Hid; have h := FLoop.next (most := most) HF.out HSK.out HZ.out HST.out HV.out HNN.out HX.out ho5 ((HBW.out.alloc HBW.out.size _).grown hg5 (by have := HBW.out.size; simp; omega) (fun x hx => (HOW.out.lt x hx).1)); simpa using h); clear ho5 hg5 hat5)
                go_roundw
                case rel => exact ⟨k + 1, v5, N, T ++ [x], by omega, rfl, by first | rfl | (rw [List.length_append]; go_num), by first | rfl | (rw [List.length_append]; go_num), by go_num, HM5.out⟩
                case measure => simp [intOf]; omega
            ·
              have n6 : (z == 6) = false := by simp [hzk]
              have z6 : ¬ z = 6 := hzk
              clear hzk
              by_cases hzk : z = 8
              · as_aux_lemma =>
                  subst hzk
                  obtain ⟨L, rfl⟩ : ∃ L, g = ([(L.length : Int)], L) := ⟨g.2, Prod.ext (by simpa [GtShape] using hshape) rfl⟩
                  have hbx : P.1.1[N.length]'(by rw [HPN.out]; simp) = (L.length : Int) := by simp [HPN.out]
                  have hNl : N.length < P.1.1.length := by rw [HPN.out]; simp
                  obtain ⟨ad, hpNe, hc⟩ := reads_int (HRN.out.below (HB3.out.trans (HBA.out.mono HB3.out.size))) hNl
                  rw [hbx] at hc
                  rw [hpNe] at p1 pa1
                  have hi0 : (0 : Int) ≤ N.length := by omega
                  have hi1 : (N.length : Int) < P.1.1.length := by omega
                  clear hpNe
                  have hTL : T.length + L.length ≤ P.1.2.length := by rw [HPT.out]; simp
                  obtain ⟨wc, hwc⟩ : ∃ wc, wa.setCell ⟨wv.heap.size, 1, none⟩ (.int .i64 L.length) = wc := ⟨_, rfl⟩
                  have hbc : Below wv.heap.size wv wc := by rw [← hwc]; exact HBA.out.setCell (Nat.le_refl _) _
                  have bC : Blk wc wv.heap.size 68 #[.int .i64 8, .int .i64 L.length, .string ⟨#[]⟩, .slice none 0 0] := by rw [← hwc]; exact HbA.out.set_ 1 _
                  have c0' : wc.cell? ⟨wv.heap.size, 0, none⟩ = some (.int .i64 (8)) := by rw [bC.cell 0]; rfl
                  have c1' : wc.cell? ⟨wv.heap.size, 1, none⟩ = some (.int .i64 (L.length)) := by rw [bC.cell 1]; rfl
                  have c2' : wc.cell? ⟨wv.heap.size, 2, none⟩ = some (.string ⟨#[]⟩) := by rw [bC.cell 2]; rfl
                  have c3' : wc.cell? ⟨wv.heap.size, 3, none⟩ = some (.slice none 0 0) := by rw [bC.cell 3]; rfl
                  have c3f := bC.frozen 3
                  have pc2 : wc.cell? ⟨wo.heap.size, 2, none⟩ = some (.slice pT P.1.2.length dT) := by rw [((HPW.out.later hbc).blk).cell 2]; rfl
                  have HBC := Lib.hid hbc
                  have HbC := Lib.hid bC
                  have hRt : Reads w3 w3.heap.size 1 pT P.1.2.length (scells (P.1.2.map bs)) := HRT.out
                  obtain ⟨AA, cc, hcut, hrc⟩ := run_cutT hRt hcT HCT.out T.length L.length hTL
                  rw [show ((P.1.2.map bs).drop T.length).take L.length = L.map bs by rw [HPT.out]; simp] at hrc
                  have HRC := Lib.hid hrc
                  have hs1' : IntKind.i64.wrap ((T.length : Int) + L.length) = (T.length : Int) + L.length := IntWalk.i64_in _ (by omega)
                  have hs2' : IntKind.i64.wrap ((P.1.2.length : Int) - T.length) = (P.1.2.length : Int) - T.length := IntWalk.i64_in _ (by omega)
                  have hl0 : (0 : Int) ≤ L.length := by omega
                  have hg0 : ¬ ((P.1.2.length : Int) - T.length < L.length) := by omega
                  clear bC hbc hbx hshape hRt hrc hpN hpT
                  go_wp2
                  have hgd : decide ((P.1.2.length : Int) - T.length < L.length) = false := by simp; omega
                  have hgn : ¬ ((P.1.2.length : Int) - T.length < L.length) := by omega
                  go_quiet (fail)
                  obtain ⟨wd, hwd⟩ : ∃ wd, wc.drewN nq = wd := ⟨_, rfl⟩
                  have hbd : Below wv.heap.size wv wd := by rw [← hwd]; exact below_drewN' HBC.out nq
                  have hBd : Blk wd wv.heap.size 68 #[.int .i64 8, .int .i64 L.length, .string ⟨#[]⟩, .slice none 0 0] := by rw [← hwd]; exact HbC.out.drewN nq
                  have c1d : wd.cell? ⟨wv.heap.size, 1, none⟩ = some (.int .i64 L.length) := by rw [hBd.cell 1]; rfl
                  have c3d := hBd.frozen 3
                  have c3c : wd.cell? ⟨wv.heap.size, 3, none⟩ = some (.slice none 0 0) := by rw [hBd.cell 3]; rfl
                  have pd2 : wd.cell? ⟨wo.heap.size, 2, none⟩ = some (.slice pT P.1.2.length dT) := by rw [((HPW.out.later hbd).blk).cell 2]; rfl
                  have HBD := Lib.hid hbd
                  have HbD := Lib.hid hBd
                  rw [hwd]
                  clear hwd hbd hBd hwc hwa c0' c1' c2' c3' pc2 a0 a1 a2 a3 p1 p2 pa1 pa2 hc
                  go_wp2
                  go_region
                  obtain ⟨we, hwe⟩ : ∃ we, (wd.setCell ⟨wv.heap.size, 3, none⟩ (.slice AA L.length cc)).drew = we := ⟨_, rfl⟩
                  have hbe : Below wv.heap.size wv we := by rw [← hwe]; exact (HBD.out.setCell (Nat.le_refl _) _).drew
                  have bC : Blk we wv.heap.size 68 #[.int .i64 8, .int .i64 L.length, .string ⟨#[]⟩, .slice AA L.length cc] := by rw [← hwe]; exact (HbD.out.set_ 3 _).drew
                  have c0' : we.cell? ⟨wv.heap.size, 0, none⟩ = some (.int .i64 (8)) := by rw [bC.cell 0]; rfl
                  have c1' : we.cell? ⟨wv.heap.size, 1, none⟩ = some (.int .i64 (L.length)) := by rw [bC.cell 1]; rfl
                  have c2' : we.cell? ⟨wv.heap.size, 2, none⟩ = some (.string ⟨#[]⟩) := by rw [bC.cell 2]; rfl
                  have c3' : we.cell? ⟨wv.heap.size, 3, none⟩ = some (.slice AA L.length cc) := by rw [bC.cell 3]; rfl
                  have HBW : Hid (Below w3.heap.size w3 we) := HB3.out.trans (hbe.mono HB3.out.size)
                  have HOW : Hid (we.ownsRow w3.heap.size 68 4 vV V.length (V.flatMap vlCells)) := own_kp HO.out (Kp.of_below (X := []) hbe) (fun _ h => by cases h)
                  have HNN : Hid (L.length = if (8 : Int) = 8 then (([(L.length : Int)], L) : Gt).2.length else 0) := by unfold Hid; simp
                  have HX : Hid (Reads w3 w3.heap.size 1 AA L.length (scells (if (8 : Int) = 8 then (([(L.length : Int)], L) : Gt).2.map bs else [])) ∧ L.length ≤ 1099511627776) := ⟨by simpa using HRC.out, by omega⟩
                  have HA : Hid (vlCells (vlOf 8 ([(L.length : Int)], L) AA L.length cc) = [.int .i64 8, .int .i64 L.length, .string ⟨#[]⟩, .slice AA L.length cc]) := by unfold Hid; simp [vlCells, vlOf]; rfl
                  rw [hwe]
                  clear bC hbe hwe c1d c3d c3c pd2 hgd hgn
                  go_wp2_with (at_builtin; refine wpList_append_any _ rfl (.tmp 158) (.tmp 160) _ rfl w3.heap.size 68 jj0 _ 4 56 Tryd.underlying66 fj0 fy0 fy1 fy2 rfl (by decide) vV V.length (V.flatMap vlCells) rfl (World.ownsRow.alloc HOW.out _) (we.heap.size + 1) (some ⟨we.heap.size, 0, none⟩) 1 1 (vlCells (vlOf (8) (([(L.length : Int)], L)) AA (L.length) (cc))) rfl (by rw [HA.out]; exact reads_lits we 68 [_, _, _, _] 4 1 rfl) (vl_one _) (by simp only [maxLen]; omega) (by omega) (by have := HBW.out.size; simp; omega) ?_; intro v5 w5 ho5 hg5 hat5; have HM5 : Hid (FLoop b S w3 (k + 1) (N ++ [(L.length : Int)]) (T ++ L) v5 w5) := (by unfold Hid; have h := FLoop.next (most := most) HF.out HSK.out HZ.out HST.out HV.out HNN.out HX.out ho5 ((HBW.out.alloc HBW.out.size _).grown hg5 (by have := HBW.out.size; simp; omega) (fun x hx => (HOW.out.lt x hx).1)); simpa using h); clear ho5 hg5 hat5)
                  go_roundw
                  case rel => exact ⟨k + 1, v5, N ++ [(L.length : Int)], T ++ L, by omega, rfl, by first | rfl | (rw [List.length_append]; go_num), by first | rfl | (rw [List.length_append]; go_num), by go_num, HM5.out⟩
                  case measure => simp [intOf]; omega
              ·
                have n8 : (z == 8) = false := by simp [hzk]
                have z8 : ¬ z = 8 := hzk
                clear hzk
                as_aux_lemma =>
                  obtain ⟨y, rfl⟩ : ∃ y, g = ([y], []) := by simpa [GtShape, z5, z6, z8] using hshape
                  have hbx : P.1.1[N.length]'(by rw [HPN.out]; simp) = y := by simp [HPN.out]
                  have hNl : N.length < P.1.1.length := by rw [HPN.out]; simp
                  obtain ⟨ad, hpNe, hc⟩ := reads_int (HRN.out.below (HB3.out.trans (HBA.out.mono HB3.out.size))) hNl
                  rw [hbx] at hc
                  rw [hpNe] at p1 pa1
                  have hi0 : (0 : Int) ≤ N.length := by omega
                  have hi1 : (N.length : Int) < P.1.1.length := by omega
                  clear hpNe
                  obtain ⟨wc, hwc⟩ : ∃ wc, wa.setCell ⟨wv.heap.size, 1, none⟩ (.int .i64 y) = wc := ⟨_, rfl⟩
                  have hbc : Below wv.heap.size wv wc := by rw [← hwc]; exact HBA.out.setCell (Nat.le_refl _) _
                  have bC : Blk wc wv.heap.size 68 #[.int .i64 z, .int .i64 y, .string ⟨#[]⟩, .slice none 0 0] := by rw [← hwc]; exact HbA.out.set_ 1 _
                  have c0' : wc.cell? ⟨wv.heap.size, 0, none⟩ = some (.int .i64 (z)) := by rw [bC.cell 0]; rfl
                  have c1' : wc.cell? ⟨wv.heap.size, 1, none⟩ = some (.int .i64 (y)) := by rw [bC.cell 1]; rfl
                  have c2' : wc.cell? ⟨wv.heap.size, 2, none⟩ = some (.string ⟨#[]⟩) := by rw [bC.cell 2]; rfl
                  have c3' : wc.cell? ⟨wv.heap.size, 3, none⟩ = some (.slice none 0 0) := by rw [bC.cell 3]; rfl
                  have HBW : Hid (Below w3.heap.size w3 wc) := HB3.out.trans (hbc.mono HB3.out.size)
                  have HOW : Hid (wc.ownsRow w3.heap.size 68 4 vV V.length (V.flatMap vlCells)) := own_kp HO.out (Kp.of_below (X := []) hbc) (fun _ h => by cases h)
                  have HNN : Hid ((0 : Nat) = if z = 8 then ([] : List (List UInt8)).length else 0) := by unfold Hid; simp
                  have HX : Hid (Reads w3 w3.heap.size 1 none 0 (scells (if z = 8 then ([] : List (List UInt8)).map bs else [])) ∧ 0 ≤ 1099511627776) := ⟨by simpa [scells, z8] using reads_zero w3 w3.heap.size none, by omega⟩
                  have HA : Hid (vlCells (vlOf z ([y], []) none 0 0) = [.int .i64 z, .int .i64 y, .string ⟨#[]⟩, .slice none 0 0]) := by unfold Hid; simp [vlCells, vlOf, z5, z6]; rfl
                  clear bC hbx hbc hshape z5 z6 z8
                  go_wp2_with (at_builtin; refine wpList_append_any _ rfl (.tmp 158) (.tmp 160) _ rfl w3.heap.size 68 jj0 _ 4 56 Tryd.underlying66 fj0 fy0 fy1 fy2 rfl (by decide) vV V.length (V.flatMap vlCells) rfl (World.ownsRow.alloc HOW.out _) (wc.heap.size + 1) (some ⟨wc.heap.size, 0, none⟩) 1 1 (vlCells (vlOf (z) (([y], [])) none (0) (0))) rfl (by rw [HA.out]; exact reads_lits wc 68 [_, _, _, _] 4 1 rfl) (vl_one _) (by simp only [maxLen]; omega) (by omega) (by have := HBW.out.size; simp; omega) ?_; intro v5 w5 ho5 hg5 hat5; have HM5 : Hid (FLoop b S w3 (k + 1) (N ++ [y]) (T) v5 w5) := (by unfold Hid; have h := FLoop.next (most := most) HF.out HSK.out HZ.out HST.out HV.out HNN.out HX.out ho5 ((HBW.out.alloc HBW.out.size _).grown hg5 (by have := HBW.out.size; simp; omega) (fun x hx => (HOW.out.lt x hx).1)); simpa using h); clear ho5 hg5 hat5)
                  go_roundw
                  case rel => exact ⟨k + 1, v5, N ++ [y], T, by omega, rfl, by first | rfl | (rw [List.length_append]; go_num), by first | rfl | (rw [List.length_append]; go_num), by go_num, HM5.out⟩
                  case measure => simp [intOf]; omega
        · obtain ⟨hPe, hqe⟩ := HDONE.out k q N T HF.out.1 (by omega)
          have hqq : q = q0 := by have h := HQE.out; rw [hqe] at h; exact Sum.inl.inj h
          have hVb : V.flatMap bVl = b.take q0 := by rw [HF.out.2.2.1, hqq]
          have hNe : P.1.1.length = N.length := by rw [hPe]
          have hTe : P.1.2.length = T.length := by rw [hPe]
          have hql : q0 ≤ b.length := by rw [← hqq]; exact HF.out.2.1
          have hkk : k = S.length := by omega
          obtain ⟨L, hL⟩ : ∃ L, L = b.take q0 := ⟨_, rfl⟩
          have hLl : L.length = q0 := by rw [hL, List.length_take]; omega
          have hR0 := reads_head (H0.out.below HB03.out) hql
          rw [← hL] at hVb hR0
          rw [hNe] at p1
          rw [hTe] at p2
          obtain ⟨VA, vc, rfl⟩ := slice_form HO.out
          have HR0 := Lib.hid hR0
          have HVB := Lib.hid hVb
          have HLL := Lib.hid hLl
          obtain ⟨ww, hww⟩ : ∃ ww, wv.alloc (.cells #[.slice none 0 0] 57) = ww := ⟨_, rfl⟩
          have hbw : Below wv.heap.size wv ww := by rw [← hww]; exact (Below.refl _ _).alloc (Nat.le_refl _) _
          have HWW : Hid (Wr ww wv.heap.size wv.heap.size (.slice none 0 0) []) := ⟨by rw [← hww]; exact Blk.new _ _ _, World.ownsRow_nil _ _ _ _⟩
          have HBW := Lib.hid hbw
          have HZW : Hid (ww.heap.size = wv.heap.size + 1) := by unfold Hid; rw [← hww]; simp
          clear hPe hqe hVb hR0 hL hLl hbw hNe hTe hVl
          go_wp2_with (first
            | (go_at_call 33
               have hrd := write_any wv.heap.size wv.heap.size _ [] VA V.length vc wv.heap.size V ww HWW.out ((Reads.of_own HO.out).below HBW.out) (fun x hx => ⟨((HV.out x hx).1.below (HB3.out.trans (HBW.out.mono HB3.out.size))).more HB3.out.size, by have := (HV.out x hx).2; omega⟩) (Nat.le_refl _) (Nat.le_refl _) (by have := HZW.out; omega) (by have := HF.out.2.2.2; omega) (by rw [HVB.out, HLL.out]; simp; omega)
               rw [HVB.out] at hrd
               with_reducible refine hrd.mono ?_
               clear hrd
               rintro e w5 ⟨rfl, v5, hp⟩
               have hb5 : Below wv.heap.size ww w5 := hp.below (Nat.le_refl _) (fun x e => by simp [Value.ownBlock] at e) (by have := HZW.out; omega)
               have HW5 := Lib.hid (show Wr w5 wv.heap.size wv.heap.size v5 L by simpa using hp.1)
               have HBV5 : Hid (Below wv.heap.size wv w5) := HBW.out.trans hb5
               clear hp hb5))
          have m1 : w5.cell? ⟨wo.heap.size, 1, none⟩ = some (.slice pN N.length dN) := (HBV5.out.cell (p := ⟨wo.heap.size, 1, none⟩) HPW.out.blk.lt).trans p1
          have m2 : w5.cell? ⟨wo.heap.size, 2, none⟩ = some (.slice pT T.length dT) := (HBV5.out.cell (p := ⟨wo.heap.size, 2, none⟩) HPW.out.blk.lt).trans p2
          have hpl := HPW.out.blk.lt
          have HB35 : Hid (Below w3.heap.size w3 w5) := HB3.out.trans (HBV5.out.mono HB3.out.size)
          have HB05 : Hid (Below w.heap.size w w5) := HB03.out.trans (HB35.out.mono HB03.out.size)
          have hq00 : (0 : Int) ≤ q0 := by omega
          have hq01 : (q0 : Int) ≤ b.length := by omega
          have hq02 : (q0 : Int) ≤ c0 := by omega
          clear p1 p2
          have HM1 := Lib.hid m1
          have HM2 := Lib.hid m2
          have hd5 : Below w5.heap.size w5 w5.drew := (Below.refl _ _).drew
          have HD5 := Lib.hid hd5
          have hb5z := HB05.out.size
          have hbv5z := HBV5.out.size
          clear hd5
          go_region_held3 (fun w' => w'.cell? ⟨wo.heap.size, 1, none⟩ = some (.slice pN N.length dN) ∧ w'.cell? ⟨wo.heap.size, 2, none⟩ = some (.slice pT T.length dT)) (first | go_keep | exact ⟨m1b, m2b⟩ | exact ⟨m1c, m2c⟩)
            (first
              | (go_at_call 30
                 have hrd := wBytes_any wv.heap.size wv.heap.size v5 L w5.drew (HW5.out.later HD5.out) (by have := HLL.out; omega)
                 rw [HLL.out] at hrd
                 with_reducible refine hrd.mono ?_
                 clear hrd
                 rintro e w6 ⟨A6, c6, rfl, ho6, hb6⟩
                 have hb56 : Below w5.heap.size w5 w6 := HD5.out.trans hb6
                 have m1b : w6.cell? ⟨wo.heap.size, 1, none⟩ = some (.slice pN N.length dN) := (hb56.cell (p := ⟨wo.heap.size, 1, none⟩) (by show wo.heap.size < w5.heap.size; omega)).trans HM1.out
                 have m2b : w6.cell? ⟨wo.heap.size, 2, none⟩ = some (.slice pT T.length dT) := (hb56.cell (p := ⟨wo.heap.size, 2, none⟩) (by show wo.heap.size < w5.heap.size; omega)).trans HM2.out
                 have HO6 := Lib.hid ho6
                 have HB6 : Hid (Below w.heap.size w w6) := HB05.out.trans (hb56.mono HB05.out.size)
                 have HR6 : Hid (Reads w6 w.heap.size 1 A0 q0 (bcells L)) := (HR0.out.below ((HB35.out.trans (hb56.mono HB35.out.size)).mono HB03.out.size))
                 clear ho6 hb6 hb56 m1 m2)
              | (go_at_call 16
                 have hrd := fun W (hW : Below w6.heap.size w6 W) => sameBytes_true A6 A0 q0 c6 c0 w6.heap.size w.heap.size L W ((Reads.of_own HO6.out).below hW) (HR6.out.below (hW.mono HB6.out.size)) (by omega)
                 with_reducible refine (hrd _ (by first | exact Below.refl _ _ | exact (Below.refl _ _).drew)).mono ?_
                 clear hrd
                 rintro e w7 ⟨rfl, m7, rfl⟩
                 have m1c : (w6.drewN m7).cell? ⟨wo.heap.size, 1, none⟩ = some (.slice pN N.length dN) := m1b
                 have m2c : (w6.drewN m7).cell? ⟨wo.heap.size, 2, none⟩ = some (.slice pT T.length dT) := m2b))
          all_goals (
            go_wp2
            go_ret
            exact ⟨rfl, below_drewN' HB6.out _⟩)
end Go.Proofs.YtbegingiedbldaaDoor
