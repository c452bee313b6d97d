/- Values written one behind the other: the walk. -/
import Derived.Test.YtbegingiedbldaaDoorJq6
namespace Go.Proofs.YtbegingiedbldaaDoor
open Go.RowKit

/-- a value to be written, as its cells tell it -/
structure Vl where
  k : Int
  z : Int
  t : ByteArray
  A : Option Addr
  n : Nat
  c : Nat
  L : List ByteArray
def vlCells (v : Vl) : List Value := [.int .i64 v.k, .int .i64 v.z, .string v.t, .slice v.A v.n v.c]
/-- its bytes -/
def bVl (v : Vl) : List UInt8 :=
  if v.k = 1 then bBool (v.z != 0) else if v.k = 2 then bByte (v.z % 256) else if v.k = 3 then bInt v.z else if v.k = 4 then bLong v.z else if v.k = 5 then bBuf v.t.data.toList else if v.k = 6 then bBuf v.t.data.toList else if v.k = 7 then bInt v.z else if v.k = 8 then bInt v.n ++ bTexts v.L else []

theorem rows_at {α : Type} {f : α → List Value} {q : Nat} (hq : 0 < q) (hf : ∀ a, (f a).length = q) {w : World} {B n : Nat} {A : Option Addr} {S : List α} (h : Reads w B q A n (S.flatMap f)) (k : Nat) (s : α) (hk : S[k]? = some s) :
    ∃ b off, A = some ⟨b, off, none⟩ ∧ b < B ∧ ∀ j u, (f s)[j]? = some u → w.cell? ⟨b, off + k * q + j, none⟩ = some u := by
  have hlen : ∀ S : List α, (S.flatMap f).length = S.length * q := by
    intro S
    induction S with
    | nil => simp
    | cons a S ih => rw [List.flatMap_cons, List.length_append, ih, hf, List.length_cons, Nat.succ_mul]; omega
  have hkl : k < S.length := (List.getElem?_eq_some_iff.1 hk).1
  have hn : n = S.length := by
    have := h.1
    rw [hlen] at this
    exact (Nat.eq_of_mul_eq_mul_right hq this).symm
  have hget : ∀ j, j < q → (S.flatMap f)[k * q + j]? = (f s)[j]? := by
    clear h hn
    intro j hj
    induction S generalizing k with
    | nil => simp at hkl
    | cons a S ih =>
      rw [List.flatMap_cons]
      cases k with
      | zero =>
        simp only [List.getElem?_cons_zero, Option.some.injEq] at hk
        subst hk
        rw [List.getElem?_append_left (by rw [hf]; omega)]
        simp
      | succ k =>
        rw [List.getElem?_append_right (by rw [hf, Nat.succ_mul]; omega), hf, show (k + 1) * q + j - q = k * q + j by rw [Nat.succ_mul]; omega]
        exact ih k (by simpa using hk) (by simpa using hkl)
  obtain ⟨b, off, rfl, hb, hc⟩ := h.plain (by omega) hq
  refine ⟨b, off, rfl, hb, fun j u hu => ?_⟩
  have hj : j < q := by rw [← hf s]; exact (List.getElem?_eq_some_iff.1 hu).1
  have := hc (k * q + j) u (by rw [hget j hj]; exact hu)
  rwa [← Nat.add_assoc] at this

theorem flat_take {α β : Type} (f : α → List β) (S : List α) (k : Nat) (s : α) (hk : S[k]? = some s) : (S.take (k + 1)).flatMap f = (S.take k).flatMap f ++ f s := by
  rw [List.take_add_one, hk, List.flatMap_append]
  simp
theorem flat_part {α β : Type} (f : α → List β) (S : List α) (k : Nat) (s : α) (hk : S[k]? = some s) : ((S.take k).flatMap f).length + (f s).length ≤ (S.flatMap f).length := by
  have h : S.flatMap f = (S.take (k + 1)).flatMap f ++ (S.drop (k + 1)).flatMap f := by rw [← List.flatMap_append, List.take_append_drop]
  rw [h, List.length_append, flat_take f S k s hk, List.length_append]
  omega
theorem bInt_mod (z y : Int) (h : y % 4294967296 = z % 4294967296) : bInt y = bInt z := by unfold bInt u32N; rw [h]

set_option maxRecDepth 100000 in
set_option maxHeartbeats 2000000 in
theorem write_any (base g : Nat) (v : Value) (l : List UInt8) (A : Option Addr) (n c B : Nat) (S : List Vl) (w : World) (h : Wr w base g v l) (hS : Reads w B 4 A n (S.flatMap vlCells)) (hL : ∀ x ∈ S, Reads w B 1 x.A x.n (scells x.L) ∧ x.n ≤ 9223372036854775807)
    (hB : B ≤ base) (hg : base ≤ g) (hbase : base ≤ w.heap.size) (hn : n ≤ 1099511627776) (hsz : l.length + (S.flatMap bVl).length + 16 ≤ 140737488355328) :
    Calls Tryd.prog 33 #[.pointer (some ⟨g, 0, none⟩), .slice A n c] w fun e w' => e = .returned (.tuple #[]) ∧ ∃ v', Wrote base g v v' l (S.flatMap bVl) w w' := by
  have hSl : S.length = n := by
    have h1 := hS.1
    have : ∀ S : List Vl, (S.flatMap vlCells).length = S.length * 4 := by
      intro S
      induction S with
      | nil => rfl
      | cons a S ih => rw [List.flatMap_cons, List.length_append, ih]; simp [vlCells]; omega
    rw [this] at h1
    omega
  subst hSl
  have HV := Lib.hid (h.2.lt)
  have HW0 := Lib.hid (Wrote.start h)
  have HS := Lib.hid hS
  have HL := Lib.hid hL
  clear h hS hL
  go_enter Tryd.func33, Tryd.ntmps33
  go_wp2
  go_loopw [4] (fun i wr => ∃ (k : Nat) (v2 : Value), k ≤ S.length ∧ i = .int .i64 k ∧ Wrote base g v v2 l ((S.take k).flatMap bVl) w wr) (fun i _ => S.length - (intOf i).toNat)
  case atStart => exact ⟨0, v, Nat.zero_le _, rfl, by simpa using HW0.out⟩
  case round =>
    clear HW0
    obtain ⟨wo, rfl⟩ : ∃ wo : World, wo = wr := ⟨_, rfl⟩
    obtain ⟨k, v2, hk, rfl, hW⟩ := hrel
    have hbw := hW.below (B := B) (by omega) (fun x hx => by have := (HV.out x hx).1; omega) (by omega)
    have hzw := hW.size
    have HW := Lib.hid hW
    have HBW := Lib.hid hbw
    clear hW hbw
    by_cases hlt : k < S.length
    · obtain ⟨s, hs⟩ : ∃ s, S[k]? = some s := ⟨_, List.getElem?_eq_getElem hlt⟩
      obtain ⟨bS, off, rfl, hbS, hcs⟩ := rows_at (f := vlCells) (q := 4) (by decide) (fun _ => rfl) (HS.out.below HBW.out) k s hs
      have e0 := hcs 0 _ rfl
      have e1 := hcs 1 _ rfl
      have e2 := hcs 2 _ rfl
      have e3 := hcs 3 _ rfl
      simp only [Nat.add_zero] at e0
      have HSK := Lib.hid hs
      have HSM := Lib.hid (List.mem_of_getElem? hs)
      obtain ⟨wa, hwa⟩ : ∃ wa, wo.alloc (.cells #[.int .i64 s.k, .int .i64 s.z, .string s.t, .slice s.A s.n s.c] 68) = wa := ⟨_, rfl⟩
      have hba : Below wo.heap.size wo wa := by rw [← hwa]; exact (Below.refl _ _).alloc (Nat.le_refl _) _
      have bA : Blk wa wo.heap.size 68 #[.int .i64 s.k, .int .i64 s.z, .string s.t, .slice s.A s.n s.c] := by rw [← hwa]; exact Blk.new _ _ _
      have a0 : wa.cell? ⟨wo.heap.size, 0, none⟩ = some (.int .i64 s.k) := by rw [bA.cell 0]; rfl
      have a1 : wa.cell? ⟨wo.heap.size, 1, none⟩ = some (.int .i64 s.z) := by rw [bA.cell 1]; rfl
      have a2 : wa.cell? ⟨wo.heap.size, 2, none⟩ = some (.string s.t) := by rw [bA.cell 2]; rfl
      have a3 : wa.cell? ⟨wo.heap.size, 3, none⟩ = some (.slice s.A s.n s.c) := by rw [bA.cell 3]; rfl
      have HWA := Lib.hid (HW.out.later hba)
      have hza : base ≤ wa.heap.size := Nat.le_trans hbase HWA.out.size
      have HR := Lib.hid ((((HL.out s HSM.out).1.below HBW.out).below (hba.mono (by have := HW.out.size; omega))))
      have hnn := (HL.out s HSM.out).2
      have hlen := flat_part bVl S k s hs
      have HLEN : Hid ((l ++ (S.take k).flatMap bVl).length + (bVl s).length + 16 ≤ 140737488355328) := by unfold Hid; rw [List.length_append]; omega
      clear hs hcs bA hba HW HBW hlen
      by_cases k1 : s.k = 1
      · as_aux_lemma =>
          have n1 : (s.k == 1) = true := by simp [k1]
          have hbv : bVl s = bBool (s.z != 0) := by simp [bVl, k1]
          have hb := HLEN.out
          rw [hbv] at hb
          have HBV := Lib.hid hbv
          clear hbv
          clear k1
          rcases hz : (s.z != 0)
          all_goals (
            rw [hz] at HBV
            go_wp2_with (go_at_call 35; refine (wBool_any base g v2 _ _ wa HWA.out.1 hza (by omega)).mono ?_; rintro e w2 ⟨rfl, v3, hp⟩; have HP := Lib.hid (HWA.out.cat (Below.refl _ _) hp); clear hp)
            go_roundw
            case rel => exact ⟨k + 1, v3, by omega, by go_num, by rw [flat_take bVl S k s HSK.out, HBV.out]; exact HP.out⟩
            case measure => simp [intOf]; omega)
      ·
        by_cases k2 : s.k = 2
        · as_aux_lemma =>
            have n1 : (s.k == 1) = false := by simp [k1]
            have n2 : (s.k == 2) = true := by simp [k2]
            have hbv : bVl s = bByte (s.z % 256) := by simp [bVl, k2]
            have hb := HLEN.out
            rw [hbv] at hb
            have HBV := Lib.hid hbv
            clear hbv
            clear k1 k2
            go_wp2_with (go_at_call 29; refine (wByte_any base g v2 _ (s.z % 256) (by omega) (by omega) wa HWA.out.1 hza (by omega)).mono ?_; rintro e w2 ⟨rfl, v3, hp⟩; have HP := Lib.hid (HWA.out.cat (Below.refl _ _) hp); clear hp)
            go_roundw
            case rel => exact ⟨k + 1, v3, by omega, by go_num, by rw [flat_take bVl S k s HSK.out, HBV.out]; exact HP.out⟩
            case measure => simp [intOf]; omega
        ·
          by_cases k3 : s.k = 3
          · as_aux_lemma =>
              have n1 : (s.k == 1) = false := by simp [k1]
              have n2 : (s.k == 2) = false := by simp [k2]
              have n3 : (s.k == 3) = true := by simp [k3]
              have hbv : bVl s = bInt s.z := by simp [bVl, k3]
              have hb := HLEN.out
              rw [hbv] at hb
              have HBV := Lib.hid hbv
              clear hbv
              clear k1 k2 k3
              go_wp2_with (go_at_call 36; refine (wInt_any base g v2 _ _ wa HWA.out.1 hza (by omega)).mono ?_; rintro e w2 ⟨rfl, v3, hp⟩; rw [bInt_mod s.z _ (by simp only [wrap32]; omega)] at hp; have HP := Lib.hid (HWA.out.cat (Below.refl _ _) hp); clear hp)
              go_roundw
              case rel => exact ⟨k + 1, v3, by omega, by go_num, by rw [flat_take bVl S k s HSK.out, HBV.out]; exact HP.out⟩
              case measure => simp [intOf]; omega
          ·
            by_cases k4 : s.k = 4
            · as_aux_lemma =>
                have n1 : (s.k == 1) = false := by simp [k1]
                have n2 : (s.k == 2) = false := by simp [k2]
                have n3 : (s.k == 3) = false := by simp [k3]
                have n4 : (s.k == 4) = true := by simp [k4]
                have hbv : bVl s = bLong s.z := by simp [bVl, k4]
                have hb := HLEN.out
                rw [hbv] at hb
                have HBV := Lib.hid hbv
                clear hbv
                clear k1 k2 k3 k4
                go_wp2_with (go_at_call 37; refine (wLong_any base g v2 _ _ wa HWA.out.1 hza (by omega)).mono ?_; rintro e w2 ⟨rfl, v3, hp⟩; have HP := Lib.hid (HWA.out.cat (Below.refl _ _) hp); clear hp)
                go_roundw
                case rel => exact ⟨k + 1, v3, by omega, by go_num, by rw [flat_take bVl S k s HSK.out, HBV.out]; exact HP.out⟩
                case measure => simp [intOf]; omega
            ·
              by_cases k5 : s.k = 5
              · as_aux_lemma =>
                  have n1 : (s.k == 1) = false := by simp [k1]
                  have n2 : (s.k == 2) = false := by simp [k2]
                  have n3 : (s.k == 3) = false := by simp [k3]
                  have n4 : (s.k == 4) = false := by simp [k4]
                  have n5 : (s.k == 5) = true := by simp [k5]
                  have hbv : bVl s = bBuf s.t.data.toList := by simp [bVl, k5]
                  have hb := HLEN.out
                  rw [hbv] at hb
                  have HBV := Lib.hid hbv
                  clear hbv
                  clear k1 k2 k3 k4 k5
                  obtain ⟨cc, w1, hrun, hr1, hb1, hs1⟩ := conv_bytes wa s.t
                  have HR1 := Lib.hid hr1
                  have HB1 := Lib.hid hb1
                  have HZ1 := Lib.hid hs1
                  have HS1 : Hid (0 < s.t.size → ∀ ad, some (⟨wa.heap.size, 0, none⟩ : Addr) = some ad → ad.block ≠ g ∧ v2.ownBlock ≠ some ad.block) := fun _ ad e => by
                    injection e with e
                    subst e
                    exact ⟨fun e => by have := HWA.out.1.lt; simp at e; omega, own_lt HWA.out.1.2 (Nat.le_refl _)⟩
                  clear hr1 hb1 hs1
                  go_wp2_with (go_at_call 28; refine (wBuffer_any base g v2 _ s.t.data.toList (some ⟨wa.heap.size, 0, none⟩) s.t.size cc (wa.heap.size + 1) w1 (HWA.out.1.later HB1.out) HR1.out (by rw [HZ1.out]; exact Nat.le_refl _) HS1.out (by rw [HZ1.out]; omega) (by rw [bBuf_len] at hb; omega)).mono ?_; rintro e w2 ⟨rfl, v3, hp⟩; have HP := Lib.hid (HWA.out.cat HB1.out hp); clear hp)
                  go_roundw
                  case rel => exact ⟨k + 1, v3, by omega, by go_num, by rw [flat_take bVl S k s HSK.out, HBV.out]; exact HP.out⟩
                  case measure => simp [intOf]; omega
              ·
                by_cases k6 : s.k = 6
                · as_aux_lemma =>
                    have n1 : (s.k == 1) = false := by simp [k1]
                    have n2 : (s.k == 2) = false := by simp [k2]
                    have n3 : (s.k == 3) = false := by simp [k3]
                    have n4 : (s.k == 4) = false := by simp [k4]
                    have n5 : (s.k == 5) = false := by simp [k5]
                    have n6 : (s.k == 6) = true := by simp [k6]
                    have hbv : bVl s = bBuf s.t.data.toList := by simp [bVl, k6]
                    have hb := HLEN.out
                    rw [hbv] at hb
                    have HBV := Lib.hid hbv
                    clear hbv
                    clear k1 k2 k3 k4 k5 k6
                    go_wp2_with (go_at_call 38; refine (wText_any base g v2 _ _ wa HWA.out.1 hza (by rw [bBuf_len, ← bsize_eq] at hb; omega)).mono ?_; rintro e w2 ⟨rfl, v3, hp⟩; have HP := Lib.hid (HWA.out.cat (Below.refl _ _) hp); clear hp)
                    go_roundw
                    case rel => exact ⟨k + 1, v3, by omega, by go_num, by rw [flat_take bVl S k s HSK.out, HBV.out]; exact HP.out⟩
                    case measure => simp [intOf]; omega
                ·
                  by_cases k7 : s.k = 7
                  · as_aux_lemma =>
                      have n1 : (s.k == 1) = false := by simp [k1]
                      have n2 : (s.k == 2) = false := by simp [k2]
                      have n3 : (s.k == 3) = false := by simp [k3]
                      have n4 : (s.k == 4) = false := by simp [k4]
                      have n5 : (s.k == 5) = false := by simp [k5]
                      have n6 : (s.k == 6) = false := by simp [k6]
                      have n7 : (s.k == 7) = true := by simp [k7]
                      have hbv : bVl s = bInt s.z := by simp [bVl, k7]
                      have hb := HLEN.out
                      rw [hbv] at hb
                      have HBV := Lib.hid hbv
                      clear hbv
                      clear k1 k2 k3 k4 k5 k6 k7
                      go_wp2_with (go_at_call 39; refine (wCount_any base g v2 _ _ wa HWA.out.1 hza (by omega)).mono ?_; rintro e w2 ⟨rfl, v3, hp⟩; have HP := Lib.hid (HWA.out.cat (Below.refl _ _) hp); clear hp)
                      go_roundw
                      case rel => exact ⟨k + 1, v3, by omega, by go_num, by rw [flat_take bVl S k s HSK.out, HBV.out]; exact HP.out⟩
                      case measure => simp [intOf]; omega
                  ·
                    by_cases k8 : s.k = 8
                    · as_aux_lemma =>
                        have n1 : (s.k == 1) = false := by simp [k1]
                        have n2 : (s.k == 2) = false := by simp [k2]
                        have n3 : (s.k == 3) = false := by simp [k3]
                        have n4 : (s.k == 4) = false := by simp [k4]
                        have n5 : (s.k == 5) = false := by simp [k5]
                        have n6 : (s.k == 6) = false := by simp [k6]
                        have n7 : (s.k == 7) = false := by simp [k7]
                        have n8 : (s.k == 8) = true := by simp [k8]
                        have hbv : bVl s = bInt s.n ++ bTexts s.L := by simp [bVl, k8]
                        have hb := HLEN.out
                        rw [hbv] at hb
                        have HBV := Lib.hid hbv
                        clear hbv
                        clear k1 k2 k3 k4 k5 k6 k7 k8
                        go_wp2_with (go_at_call 40; refine (wList_any base g v2 _ s.A s.n s.c B s.L wa HWA.out.1 HR.out hB hg hza hnn (by simp only [List.length_append, bInt_len] at hb ⊢; omega)).mono ?_; rintro e w2 ⟨rfl, v3, hp⟩; have HP := Lib.hid (HWA.out.cat (Below.refl _ _) hp); clear hp)
                        go_roundw
                        case rel => exact ⟨k + 1, v3, by omega, by go_num, by rw [flat_take bVl S k s HSK.out, HBV.out]; exact HP.out⟩
                        case measure => simp [intOf]; omega
                    ·
                      as_aux_lemma =>
                        have n1 : (s.k == 1) = false := by simp [k1]
                        have n2 : (s.k == 2) = false := by simp [k2]
                        have n3 : (s.k == 3) = false := by simp [k3]
                        have n4 : (s.k == 4) = false := by simp [k4]
                        have n5 : (s.k == 5) = false := by simp [k5]
                        have n6 : (s.k == 6) = false := by simp [k6]
                        have n7 : (s.k == 7) = false := by simp [k7]
                        have n8 : (s.k == 8) = false := by simp [k8]
                        have hbv : bVl s = [] := by simp [bVl, k1, k2, k3, k4, k5, k6, k7, k8]
                        have HBV := Lib.hid hbv
                        clear hbv k1 k2 k3 k4 k5 k6 k7 k8
                        go_wp2
                        go_roundw
                        case rel => exact ⟨k + 1, v2, by omega, by go_num, by rw [flat_take bVl S k s HSK.out, HBV.out, List.append_nil]; exact HWA.out⟩
                        case measure => simp [intOf]; omega
    · have HK : Hid (k = S.length) := by unfold Hid; omega
      go_wp2
      go_end0
      have hW := HW.out
      rw [HK.out, List.take_length] at hW
      exact ⟨rfl, v2, hW⟩
end Go.Proofs.YtbegingiedbldaaDoor
