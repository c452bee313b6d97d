/- The document's clean: are texts UTF-8, and fields that it has not zero? (printed by gen_c7.py) -/
import Derived.Test.YtpjjnmdfgcfnmaaGreatDoorOc6
import Derived.Test.YtpjjnmdfgcfnmaaGreatDoorJta
import Derived.Test.YtpjjnmdfgcfnmaaGreatDoorLine
set_option linter.unusedVariables false
set_option linter.unusedSimpArgs false
namespace Go.Proofs.YtpjjnmdfgcfnmaaGreatDoor
open Go.RowKit

/-- has a type a field of that letter? -/
def hasN (t : Int) (c : UInt8) : Bool := decide (c ∈ fieldsN t)
def okP (x : ByteArray × ByteArray) : Bool := validS x.1 && validS x.2
def okK (h : Bool) (l : List ByteArray) : Bool := (h || ((l.length : Int) == 0)) && l.all validS
def cleanA (f : OpF) (b : Bool) : Bool := ((b && ((hasN f.t 108) || ((f.tl : Int) == 0))) && ((hasN f.t 122) || ((f.zx : Int) == 0)))
def cleanC (f : OpF) (b : Bool) : Bool := ((((b && ((hasN f.t 112) || (f.p.toList == (⟨#[]⟩ : ByteArray).toList))) && ((hasN f.t 100) || (((f.l.length : Int) : Int) == 0))) && ((hasN f.t 97) || (((f.L.length : Int) : Int) == 0))) && ((hasN f.t 102) || ((f.fl : Int) == 0)))
def cleanD (f : OpF) (b : Bool) : Bool := (((b && ((hasN f.t 118) || ((f.ve : Int) == 0))) && ((hasN f.t 119) || (!f.wa))) && ((hasN f.t 99) || (((f.ct : Int) == 0) && ((f.by_ : Int) == 0))))
def cleanE (f : OpF) (n : Nat) (b : Bool) : Bool := (((b && ((hasN f.t 116) || ((f.to : Int) == 0))) && ((hasN f.t 105) || (((f.I.length : Int) : Int) == 0))) && ((hasN f.t 115) || (((n : Int) : Int) == 0)))
def cleanT (f : OpF) : Bool := ((validS f.p && f.L.all fun x => okP x.2) && f.I.all okP) && f.lists.all (okK (hasN f.t 107))
def cleanB (f : OpF) (n : Nat) : Bool := cleanE f n (cleanD f (cleanC f (cleanA f (cleanT f))))

theorem has_letter (t : Int) (c : UInt8) (z : Int) (hz : z = (c.toNat : Int)) (s3 : ByteArray) (hs : s3 = ⟨(fieldsN t).toArray⟩) (W : World) : Calls Tryz.prog 116 #[.string s3, .int .u8 z] W fun e w' => e = .returned (.bool (hasN t c)) ∧ w' = W := by
  subst hz hs
  have hl : (fieldsN t).length ≤ 1000 := by
    unfold fieldsN
    rcases hf : fieldsL.find? (fun x => x.1 == t) with _ | x
    · rw [hf]; exact Nat.zero_le _
    · have h1 := List.mem_of_find?_eq_some hf
      have h2 : ∀ x ∈ fieldsL, x.2.length ≤ 1000 := by decide
      rw [hf]
      exact h2 x h1
  exact refHas_any (fieldsN t) c W hl
theorem utf8_same (s : ByteArray) (hs : s.size ≤ reachBytes) (W : World) : Calls Tryz.prog 115 #[.string s] W fun e w' => e = .returned (.bool (validS s)) ∧ w' = W :=
  (utf8_any s W (by unfold reachBytes at hs; omega)).mono fun e w' h => ⟨h.1, h.2.symm⟩
theorem acl_cellsB {w : World} {n : Nat} {A : Option Addr} {L : List AclT} (h : Reads w w.heap.size 3 A n (aclCells L)) (hn : L.length = n) {j : Nat} (hj : j < L.length) : ∃ ad, A = some ad ∧ ∀ W, Below w.heap.size w W → W.cell? (ad.add (j * 3 + 1)) = some (.string L[j].2.1) ∧ W.cell? (ad.add (j * 3 + 2)) = some (.string L[j].2.2) := by
  obtain ⟨ad, hA, _⟩ := acl_cellsO h hn hj
  refine ⟨ad, hA, fun W hW => ?_⟩
  obtain ⟨ad', hA', h1⟩ := acl_cellsO (h.below hW) hn hj
  rw [hA] at hA'
  injection hA' with e
  subst e
  exact h1
theorem id_cellsB {w : World} {n : Nat} {A : Option Addr} {L : List (ByteArray × ByteArray)} (h : Reads w w.heap.size 2 A n (idCells L)) (hn : L.length = n) {j : Nat} (hj : j < L.length) : ∃ ad, A = some ad ∧ ∀ W, Below w.heap.size w W → W.cell? (ad.add (j * 2)) = some (.string L[j].1) ∧ W.cell? (ad.add (j * 2 + 1)) = some (.string L[j].2) := by
  obtain ⟨ad, hA, _⟩ := id_cellsO h hn hj
  refine ⟨ad, hA, fun W hW => ?_⟩
  obtain ⟨ad', hA', h1⟩ := id_cellsO (h.below hW) hn hj
  rw [hA] at hA'
  injection hA' with e
  subst e
  exact h1
theorem str_cellB {w : World} {n : Nat} {A : Option Addr} {L : List ByteArray} (h : Reads w w.heap.size 1 A n (strCells L)) (hn : L.length = n) {j : Nat} (hj : j < L.length) : ∃ ad, A = some ad ∧ ∀ W, Below w.heap.size w W → W.cell? (ad.add j) = some (.string L[j]) := by
  obtain ⟨ad, hA, _⟩ := str_cellO h hn hj
  refine ⟨ad, hA, fun W hW => ?_⟩
  obtain ⟨ad', hA', h1⟩ := str_cellO (h.below hW) hn hj
  rw [hA] at hA'
  injection hA' with e
  subst e
  exact h1
theorem all_dropB {α : Type} {L : List α} {p : α → Bool} {k : Nat} (hk : k < L.length) (b : Bool) : (b && (L.drop k).all p) = ((b && p L[k]) && (L.drop (k + 1)).all p) := by
  rw [List.drop_eq_getElem_cons hk, List.all_cons, Bool.and_assoc]
set_option maxRecDepth 100000 in
set_option maxHeartbeats 16000000 in
theorem refClean_any {lo : Option Nat} (f : OpF) (d a k0 k1 k2 k3 k4 i s : Sl) (w : World) (h : FAt w lo f d a k0 k1 k2 k3 k4 i) (ok : f.Ok) (hsn : s.n ≤ 4611686018427387904) (cs : Array Value) (hcs : cs = (f.row d a k0 k1 k2 k3 k4 i s).toArray) :
    Calls Tryz.prog 74 #[.agg cs] w fun e w' => e = .returned (.bool (cleanB f s.n)) ∧ Below w.heap.size w w' := by
  have HCS : Hid (cs = (f.rowL d a [k0, k1, k2, k3, k4] i s).toArray) := hcs
  subst hcs
  obtain ⟨w1, hw1⟩ : ∃ w1, w.alloc (.cells (f.row d a k0 k1 k2 k3 k4 i s).toArray 29) = w1 := ⟨_, rfl⟩
  have hb1 := newB hw1
  have hn1 := newK hw1
  have HB1 := Lib.hid hb1
  have HN1 := Lib.hid hn1
  have c0 : w1.cell? ⟨w.heap.size, 0, none⟩ = some (.int .i32 f.t) := blk_cell hn1 0 rfl
  have c1 : w1.cell? ⟨w.heap.size, 1, none⟩ = some (.string f.p) := blk_cell hn1 1 rfl
  have c3 : w1.cell? ⟨w.heap.size, 3, none⟩ = some (.slice a.A a.n a.c) := blk_cell hn1 3 rfl
  have HH := Lib.hid (h.later hb1)
  have HDL : Hid (f.l.length = d.n) := HH.out.d.len
  have HAL : Hid (f.L.length = a.n) := HH.out.a.len
  have HIL : Hid (f.I.length = i.n) := HH.out.i.len
  have hba := HH.out.a.bd (by decide)
  have hbi := HH.out.i.bd (by decide)
  have HOK := Lib.hid ok
  have HKS : Hid (∀ j (hj : j < 5), SlAt w1 lo 9 1 16 ([k0, k1, k2, k3, k4][j]'hj) (f.lists[j]'hj).length (strCells (f.lists[j]'hj))) := fun j hj => by
    rcases (by omega : j = 0 ∨ j = 1 ∨ j = 2 ∨ j = 3 ∨ j = 4) with rfl | rfl | rfl | rfl | rfl
    · exact HH.out.k0
    · exact HH.out.k1
    · exact HH.out.k2
    · exact HH.out.k3
    · exact HH.out.k4
  have HFI := Lib.hid (fun W => fields_any f.t W)
  obtain ⟨s3, hs3⟩ : ∃ s3 : ByteArray, s3 = ⟨(fieldsN f.t).toArray⟩ := ⟨_, rfl⟩
  rw [← hs3] at HFI
  obtain ⟨h107, e107⟩ : ∃ b, b = hasN f.t 107 := ⟨_, rfl⟩
  have HH107 : Hid (∀ W, Calls Tryz.prog 116 #[.string s3, .int .u8 107] W fun e w' => e = .returned (.bool h107) ∧ w' = W) := fun W => by rw [e107]; exact has_letter f.t 107 107 rfl s3 hs3 W
  have HE107 := Lib.hid e107
  clear e107
  obtain ⟨h108, e108⟩ : ∃ b, b = hasN f.t 108 := ⟨_, rfl⟩
  have HH108 : Hid (∀ W, Calls Tryz.prog 116 #[.string s3, .int .u8 108] W fun e w' => e = .returned (.bool h108) ∧ w' = W) := fun W => by rw [e108]; exact has_letter f.t 108 108 rfl s3 hs3 W
  have HE108 := Lib.hid e108
  clear e108
  obtain ⟨h122, e122⟩ : ∃ b, b = hasN f.t 122 := ⟨_, rfl⟩
  have HH122 : Hid (∀ W, Calls Tryz.prog 116 #[.string s3, .int .u8 122] W fun e w' => e = .returned (.bool h122) ∧ w' = W) := fun W => by rw [e122]; exact has_letter f.t 122 122 rfl s3 hs3 W
  have HE122 := Lib.hid e122
  clear e122
  obtain ⟨h112, e112⟩ : ∃ b, b = hasN f.t 112 := ⟨_, rfl⟩
  have HH112 : Hid (∀ W, Calls Tryz.prog 116 #[.string s3, .int .u8 112] W fun e w' => e = .returned (.bool h112) ∧ w' = W) := fun W => by rw [e112]; exact has_letter f.t 112 112 rfl s3 hs3 W
  have HE112 := Lib.hid e112
  clear e112
  obtain ⟨h100, e100⟩ : ∃ b, b = hasN f.t 100 := ⟨_, rfl⟩
  have HH100 : Hid (∀ W, Calls Tryz.prog 116 #[.string s3, .int .u8 100] W fun e w' => e = .returned (.bool h100) ∧ w' = W) := fun W => by rw [e100]; exact has_letter f.t 100 100 rfl s3 hs3 W
  have HE100 := Lib.hid e100
  clear e100
  obtain ⟨h97, e97⟩ : ∃ b, b = hasN f.t 97 := ⟨_, rfl⟩
  have HH97 : Hid (∀ W, Calls Tryz.prog 116 #[.string s3, .int .u8 97] W fun e w' => e = .returned (.bool h97) ∧ w' = W) := fun W => by rw [e97]; exact has_letter f.t 97 97 rfl s3 hs3 W
  have HE97 := Lib.hid e97
  clear e97
  obtain ⟨h102, e102⟩ : ∃ b, b = hasN f.t 102 := ⟨_, rfl⟩
  have HH102 : Hid (∀ W, Calls Tryz.prog 116 #[.string s3, .int .u8 102] W fun e w' => e = .returned (.bool h102) ∧ w' = W) := fun W => by rw [e102]; exact has_letter f.t 102 102 rfl s3 hs3 W
  have HE102 := Lib.hid e102
  clear e102
  obtain ⟨h118, e118⟩ : ∃ b, b = hasN f.t 118 := ⟨_, rfl⟩
  have HH118 : Hid (∀ W, Calls Tryz.prog 116 #[.string s3, .int .u8 118] W fun e w' => e = .returned (.bool h118) ∧ w' = W) := fun W => by rw [e118]; exact has_letter f.t 118 118 rfl s3 hs3 W
  have HE118 := Lib.hid e118
  clear e118
  obtain ⟨h119, e119⟩ : ∃ b, b = hasN f.t 119 := ⟨_, rfl⟩
  have HH119 : Hid (∀ W, Calls Tryz.prog 116 #[.string s3, .int .u8 119] W fun e w' => e = .returned (.bool h119) ∧ w' = W) := fun W => by rw [e119]; exact has_letter f.t 119 119 rfl s3 hs3 W
  have HE119 := Lib.hid e119
  clear e119
  obtain ⟨h99, e99⟩ : ∃ b, b = hasN f.t 99 := ⟨_, rfl⟩
  have HH99 : Hid (∀ W, Calls Tryz.prog 116 #[.string s3, .int .u8 99] W fun e w' => e = .returned (.bool h99) ∧ w' = W) := fun W => by rw [e99]; exact has_letter f.t 99 99 rfl s3 hs3 W
  have HE99 := Lib.hid e99
  clear e99
  obtain ⟨h116, e116⟩ : ∃ b, b = hasN f.t 116 := ⟨_, rfl⟩
  have HH116 : Hid (∀ W, Calls Tryz.prog 116 #[.string s3, .int .u8 116] W fun e w' => e = .returned (.bool h116) ∧ w' = W) := fun W => by rw [e116]; exact has_letter f.t 116 116 rfl s3 hs3 W
  have HE116 := Lib.hid e116
  clear e116
  obtain ⟨h105, e105⟩ : ∃ b, b = hasN f.t 105 := ⟨_, rfl⟩
  have HH105 : Hid (∀ W, Calls Tryz.prog 116 #[.string s3, .int .u8 105] W fun e w' => e = .returned (.bool h105) ∧ w' = W) := fun W => by rw [e105]; exact has_letter f.t 105 105 rfl s3 hs3 W
  have HE105 := Lib.hid e105
  clear e105
  obtain ⟨h115, e115⟩ : ∃ b, b = hasN f.t 115 := ⟨_, rfl⟩
  have HH115 : Hid (∀ W, Calls Tryz.prog 116 #[.string s3, .int .u8 115] W fun e w' => e = .returned (.bool h115) ∧ w' = W) := fun W => by rw [e115]; exact has_letter f.t 115 115 rfl s3 hs3 W
  have HE115 := Lib.hid e115
  clear e115
  have HVP := Lib.hid (fun W => utf8_same f.p ok.p W)
  obtain ⟨vp, hvp⟩ : ∃ b, b = validS f.p := ⟨_, rfl⟩
  rw [← hvp] at HVP
  obtain ⟨R, hR⟩ : ∃ R, R = cleanB f s.n := ⟨_, rfl⟩
  rw [← hR]
  have HRR := Lib.hid hR
  have HVPE := Lib.hid hvp
  clear h ok hb1 hn1 hs3 hvp hR
  go_enter Tryz.func74, Tryz.ntmps74
  go_wp2_with (first
    | (go_at_call 54
       refine (HFI.out _).mono ?_
       rintro e w2 ⟨rfl, he⟩
       obtain rfl := he.symm)
    | (go_at_call 115
       refine (HVP.out _).mono ?_
       rintro e w3 ⟨rfl, he⟩
       obtain rfl := he.symm))
  clear c0 c1 c3
  obtain ⟨RA, hRA⟩ : ∃ R, R = (vp && f.L.all fun x => okP x.2) := ⟨_, rfl⟩
  have HRA := Lib.hid hRA
  clear hRA
  go_loopw [4, 5] (fun v4 v5 wr => ∃ (b : Bool) (k : Nat), k ≤ a.n ∧ v4 = .bool b ∧ v5 = .int .i64 (k : Int) ∧ Hid (RA = (b && (f.L.drop k).all fun x => okP x.2)) ∧ Hid (Below w1.heap.size w1 wr)) (fun _ v5 _ => a.n - (intOf v5).toNat)
  case atStart => exact ⟨vp, 0, by omega, rfl, rfl, HRA.out, Below.refl _ _⟩
  case round =>
    obtain ⟨b, k, hk, rfl, rfl, HK, HBr⟩ := hrel
    have HNr := Lib.hid (HN1.out.below HBr.out HN1.out.lt)
    have c3 : wr.cell? ⟨w.heap.size, 3, none⟩ = some (.slice a.A a.n a.c) := blk_cell (HN1.out.below HBr.out HN1.out.lt) 3 rfl
    by_cases hka : k < a.n
    · have hkl : k < f.L.length := by rw [HAL.out]; exact hka
      obtain ⟨ad, hA, hcc⟩ := acl_cellsB HH.out.a.reads HAL.out hkl
      obtain ⟨x, hx⟩ : ∃ x, x = (f.L[k]).2.1 := ⟨_, rfl⟩
      obtain ⟨y, hy⟩ : ∃ y, y = (f.L[k]).2.2 := ⟨_, rfl⟩
      rw [← hx, ← hy] at hcc
      have hxr := (HOK.out.acl _ (List.getElem_mem hkl)).2
      rw [← hx, ← hy] at hxr
      obtain ⟨vx, hvx⟩ : ∃ b, b = validS x := ⟨_, rfl⟩
      obtain ⟨vy, hvy⟩ : ∃ b, b = validS y := ⟨_, rfl⟩
      have HVX : Hid (∀ W, Calls Tryz.prog 115 #[.string x] W fun e w' => e = .returned (.bool vx) ∧ w' = W) := fun W => by rw [hvx]; exact utf8_same x hxr.1 W
      have HVY : Hid (∀ W, Calls Tryz.prog 115 #[.string y] W fun e w' => e = .returned (.bool vy) ∧ w' = W) := fun W => by rw [hvy]; exact utf8_same y hxr.2 W
      have HK2 : Hid (RA = (((b && vx) && vy) && (f.L.drop (k + 1)).all fun x => okP x.2)) := by
        unfold Hid
        rw [HK.out, all_dropB hkl, okP, ← hx, ← hy, ← hvx, ← hvy]
        simp only [Bool.and_assoc]
      have CA : Hid (wr.cell? ⟨w.heap.size, 3, none⟩ = some (.slice (some ad) a.n a.c)) := by unfold Hid; rw [← hA]; exact blk_cell HNr.out 3 rfl
      have CX : Hid (wr.cell? (ad.add (k * 3 + 1)) = some (.string x)) := (hcc wr HBr.out).1
      have CY : Hid (wr.cell? (ad.add (k * 3 + 2)) = some (.string y)) := (hcc wr HBr.out).2
      clear hx hy hcc hA hxr hvx hvy HK
      go_upto_region 6 with (fail)
      refine wp_region_lit ?_
      refine wpL_mv rfl rfl (ev rfl) ?_
      simp only [put_lit, List.set_cons_zero, List.set_cons_succ]
      refine wpL_mv rfl rfl (ev rfl) ?_
      simp only [put_lit, List.set_cons_zero, List.set_cons_succ]
      refine wpL_g (wa rfl rfl rfl) (fun hc => r_field 29 _ 3 rfl (ev rfl) Tryz.underlying29 rfl (n := 0) isz_23 rfl) ?_
      simp only [put_lit, List.set_cons_zero, List.set_cons_succ]
      refine wpL_g (wa rfl rfl rfl) (fun hc => r_load 23 _ rfl (evg rfl hc) CA.out Tryz.underlying23 rfl) ?_
      simp only [put_lit, List.set_cons_zero, List.set_cons_succ]
      refine wpL_mvg (wa rfl rfl rfl) rfl (fun hc => (ev rfl)) ?_
      simp only [put_lit, List.set_cons_zero, List.set_cons_succ]
      refine wpL_g (wa rfl rfl rfl) (fun hc => r_index 23 _ _ rfl (evg rfl hc) (evg rfl hc) hka Tryz.underlying23 isz_104 rfl) ?_
      simp only [put_lit, List.set_cons_zero, List.set_cons_succ]
      refine wpL_g (wa rfl rfl rfl) (fun hc => r_field 104 _ 1 rfl (evg rfl hc) Tryz.underlying104 rfl (n := 1) isz_102 (Addr.add_add _ _ _)) ?_
      simp only [put_lit, List.set_cons_zero, List.set_cons_succ]
      refine wpL_g (wa rfl rfl rfl) (fun hc => r_field 102 _ 0 rfl (evg rfl hc) Tryz.underlying102 rfl (n := 0) isz_9 rfl) ?_
      simp only [put_lit, List.set_cons_zero, List.set_cons_succ]
      refine wpL_g (wa rfl rfl rfl) (fun hc => r_load 9 _ rfl (evg rfl hc) CX.out Tryz.underlying9 rfl) ?_
      simp only [put_lit, List.set_cons_zero, List.set_cons_succ]
      refine wpL_c (wa rfl rfl rfl) 115 _ _ rfl #[.string x] (fun hc => mapA1 (evg rfl hc)) Tryz.func115 (by kernel_rfl) (by kernel_rfl) (fun hc => HVX.out _) ?_
      simp only [put_lit, List.set_cons_zero, List.set_cons_succ]
      refine wpL_u rfl (r_and _ _ _ rfl (ev rfl) (fun hb => evg rfl (by first | (simp [hb]; done) | simpa using hb)) rfl) ?_
      simp only [put_lit, List.set_cons_zero, List.set_cons_succ]
      refine wpL_mv rfl rfl (ev rfl) ?_
      simp only [put_lit, List.set_cons_zero, List.set_cons_succ]
      refine wpL_g (wa rfl rfl rfl) (fun hc => r_field 29 _ 3 rfl (ev rfl) Tryz.underlying29 rfl (n := 0) isz_23 rfl) ?_
      simp only [put_lit, List.set_cons_zero, List.set_cons_succ]
      refine wpL_g (wa rfl rfl rfl) (fun hc => r_load 23 _ rfl (evg rfl hc) CA.out Tryz.underlying23 rfl) ?_
      simp only [put_lit, List.set_cons_zero, List.set_cons_succ]
      refine wpL_mvg (wa rfl rfl rfl) rfl (fun hc => (ev rfl)) ?_
      simp only [put_lit, List.set_cons_zero, List.set_cons_succ]
      refine wpL_g (wa rfl rfl rfl) (fun hc => r_index 23 _ _ rfl (evg rfl hc) (evg rfl hc) hka Tryz.underlying23 isz_104 rfl) ?_
      simp only [put_lit, List.set_cons_zero, List.set_cons_succ]
      refine wpL_g (wa rfl rfl rfl) (fun hc => r_field 104 _ 1 rfl (evg rfl hc) Tryz.underlying104 rfl (n := 1) isz_102 (Addr.add_add _ _ _)) ?_
      simp only [put_lit, List.set_cons_zero, List.set_cons_succ]
      refine wpL_g (wa rfl rfl rfl) (fun hc => r_field 102 _ 1 rfl (evg rfl hc) Tryz.underlying102 rfl (n := 0) isz_9 (Addr.add_add _ _ _)) ?_
      simp only [put_lit, List.set_cons_zero, List.set_cons_succ]
      refine wpL_g (wa rfl rfl rfl) (fun hc => r_load 9 _ rfl (evg rfl hc) CY.out Tryz.underlying9 rfl) ?_
      simp only [put_lit, List.set_cons_zero, List.set_cons_succ]
      refine wpL_c (wa rfl rfl rfl) 115 _ _ rfl #[.string y] (fun hc => mapA1 (evg rfl hc)) Tryz.func115 (by kernel_rfl) (by kernel_rfl) (fun hc => HVY.out _) ?_
      simp only [put_lit, List.set_cons_zero, List.set_cons_succ]
      refine wpL_u rfl (r_and _ _ _ rfl (ev rfl) (fun hb => evg rfl (by first | (simp [hb]; done) | simpa using hb)) rfl) ?_
      simp only [put_lit, List.set_cons_zero, List.set_cons_succ]
      refine wpL_as rfl rfl (ev rfl) ?_
      simp only [put_lit, List.set_cons_zero, List.set_cons_succ]
      iterate 15 (generalize gv _ _ = zz)
      obtain ⟨b', hb'⟩ : ∃ b', b' = ((b && vx) && vy) := ⟨_, rfl⟩
      rw [← hb'] at HK2 ⊢
      clear hb'
      go_wp2
      go_roundw
      case rel => exact ⟨b', k + 1, by omega, rfl, by go_num, HK2.out, HBr.out⟩
      case measure => simp [intOf]; omega
    · have HRB : Hid (RA = b) := by
        have h := HK.out
        rwa [List.drop_eq_nil_of_le (by rw [HAL.out]; omega), List.all_nil, Bool.and_true] at h
      obtain ⟨RI, hRI⟩ : ∃ R, R = (RA && f.I.all okP) := ⟨_, rfl⟩
      have HRI := Lib.hid hRI
      obtain ⟨u1, rfl⟩ : ∃ v, v = wr := ⟨_, rfl⟩
      have HU1 := Lib.hid HBr.out
      clear hRI HK HBr
      go_wp2
      clear c3
      go_loopw [4, 6] (fun v4 v6 wr => ∃ (b : Bool) (k : Nat), k ≤ i.n ∧ v4 = .bool b ∧ v6 = .int .i64 (k : Int) ∧ Hid (RI = (b && (f.I.drop k).all okP)) ∧ Hid (Below w1.heap.size w1 wr)) (fun _ v6 _ => i.n - (intOf v6).toNat)
      case atStart => exact ⟨b, 0, by omega, rfl, rfl, (by unfold Hid; rw [HRI.out, HRB.out]; rfl), HU1.out⟩
      case round =>
        clear HU1 HNr
        obtain ⟨b, k, hk, rfl, rfl, HK, HBr⟩ := hrel
        have HNr := Lib.hid (HN1.out.below HBr.out HN1.out.lt)
        have c17 : wr.cell? ⟨w.heap.size, 17, none⟩ = some (.slice i.A i.n i.c) := blk_cell (HN1.out.below HBr.out HN1.out.lt) 17 rfl
        by_cases hka : k < i.n
        · have hkl : k < f.I.length := by rw [HIL.out]; exact hka
          obtain ⟨ad, hA, hcc⟩ := id_cellsB HH.out.i.reads HIL.out hkl
          obtain ⟨x, hx⟩ : ∃ x, x = (f.I[k]).1 := ⟨_, rfl⟩
          obtain ⟨y, hy⟩ : ∃ y, y = (f.I[k]).2 := ⟨_, rfl⟩
          rw [← hx, ← hy] at hcc
          have hxr := HOK.out.ids _ (List.getElem_mem hkl)
          rw [← hx, ← hy] at hxr
          obtain ⟨vx, hvx⟩ : ∃ b, b = validS x := ⟨_, rfl⟩
          obtain ⟨vy, hvy⟩ : ∃ b, b = validS y := ⟨_, rfl⟩
          have HVX : Hid (∀ W, Calls Tryz.prog 115 #[.string x] W fun e w' => e = .returned (.bool vx) ∧ w' = W) := fun W => by rw [hvx]; exact utf8_same x hxr.1 W
          have HVY : Hid (∀ W, Calls Tryz.prog 115 #[.string y] W fun e w' => e = .returned (.bool vy) ∧ w' = W) := fun W => by rw [hvy]; exact utf8_same y hxr.2 W
          have HK2 : Hid (RI = (((b && vx) && vy) && (f.I.drop (k + 1)).all okP)) := by
            unfold Hid
            rw [HK.out, all_dropB hkl, okP, ← hx, ← hy, ← hvx, ← hvy]
            simp only [Bool.and_assoc]
          have CA : Hid (wr.cell? ⟨w.heap.size, 17, none⟩ = some (.slice (some ad) i.n i.c)) := by unfold Hid; rw [← hA]; exact blk_cell HNr.out 17 rfl
          have CX : Hid (wr.cell? (ad.add (k * 2)) = some (.string x)) := (hcc wr HBr.out).1
          have CY : Hid (wr.cell? (ad.add (k * 2 + 1)) = some (.string y)) := (hcc wr HBr.out).2
          clear hx hy hcc hA hxr hvx hvy HK
          go_upto_region 10 with (fail)
          refine wp_region_lit ?_
          refine wpL_mv rfl rfl (ev rfl) ?_
          simp only [put_lit, List.set_cons_zero, List.set_cons_succ]
          refine wpL_mv rfl rfl (ev rfl) ?_
          simp only [put_lit, List.set_cons_zero, List.set_cons_succ]
          refine wpL_g (wa rfl rfl rfl) (fun hc => r_field 29 _ 13 rfl (ev rfl) Tryz.underlying29 rfl (n := 0) isz_26 rfl) ?_
          simp only [put_lit, List.set_cons_zero, List.set_cons_succ]
          refine wpL_g (wa rfl rfl rfl) (fun hc => r_load 26 _ rfl (evg rfl hc) CA.out Tryz.underlying26 rfl) ?_
          simp only [put_lit, List.set_cons_zero, List.set_cons_succ]
          refine wpL_mvg (wa rfl rfl rfl) rfl (fun hc => (ev rfl)) ?_
          simp only [put_lit, List.set_cons_zero, List.set_cons_succ]
          refine wpL_g (wa rfl rfl rfl) (fun hc => r_index 26 _ _ rfl (evg rfl hc) (evg rfl hc) hka Tryz.underlying26 isz_102 rfl) ?_
          simp only [put_lit, List.set_cons_zero, List.set_cons_succ]
          refine wpL_g (wa rfl rfl rfl) (fun hc => r_field 102 _ 0 rfl (evg rfl hc) Tryz.underlying102 rfl (n := 0) isz_9 rfl) ?_
          simp only [put_lit, List.set_cons_zero, List.set_cons_succ]
          refine wpL_g (wa rfl rfl rfl) (fun hc => r_load 9 _ rfl (evg rfl hc) CX.out Tryz.underlying9 rfl) ?_
          simp only [put_lit, List.set_cons_zero, List.set_cons_succ]
          refine wpL_c (wa rfl rfl rfl) 115 _ _ rfl #[.string x] (fun hc => mapA1 (evg rfl hc)) Tryz.func115 (by kernel_rfl) (by kernel_rfl) (fun hc => HVX.out _) ?_
          simp only [put_lit, List.set_cons_zero, List.set_cons_succ]
          refine wpL_u rfl (r_and _ _ _ rfl (ev rfl) (fun hb => evg rfl (by first | (simp [hb]; done) | simpa using hb)) rfl) ?_
          simp only [put_lit, List.set_cons_zero, List.set_cons_succ]
          refine wpL_mv rfl rfl (ev rfl) ?_
          simp only [put_lit, List.set_cons_zero, List.set_cons_succ]
          refine wpL_g (wa rfl rfl rfl) (fun hc => r_field 29 _ 13 rfl (ev rfl) Tryz.underlying29 rfl (n := 0) isz_26 rfl) ?_
          simp only [put_lit, List.set_cons_zero, List.set_cons_succ]
          refine wpL_g (wa rfl rfl rfl) (fun hc => r_load 26 _ rfl (evg rfl hc) CA.out Tryz.underlying26 rfl) ?_
          simp only [put_lit, List.set_cons_zero, List.set_cons_succ]
          refine wpL_mvg (wa rfl rfl rfl) rfl (fun hc => (ev rfl)) ?_
          simp only [put_lit, List.set_cons_zero, List.set_cons_succ]
          refine wpL_g (wa rfl rfl rfl) (fun hc => r_index 26 _ _ rfl (evg rfl hc) (evg rfl hc) hka Tryz.underlying26 isz_102 rfl) ?_
          simp only [put_lit, List.set_cons_zero, List.set_cons_succ]
          refine wpL_g (wa rfl rfl rfl) (fun hc => r_field 102 _ 1 rfl (evg rfl hc) Tryz.underlying102 rfl (n := 0) isz_9 (Addr.add_add _ _ _)) ?_
          simp only [put_lit, List.set_cons_zero, List.set_cons_succ]
          refine wpL_g (wa rfl rfl rfl) (fun hc => r_load 9 _ rfl (evg rfl hc) CY.out Tryz.underlying9 rfl) ?_
          simp only [put_lit, List.set_cons_zero, List.set_cons_succ]
          refine wpL_c (wa rfl rfl rfl) 115 _ _ rfl #[.string y] (fun hc => mapA1 (evg rfl hc)) Tryz.func115 (by kernel_rfl) (by kernel_rfl) (fun hc => HVY.out _) ?_
          simp only [put_lit, List.set_cons_zero, List.set_cons_succ]
          refine wpL_u rfl (r_and _ _ _ rfl (ev rfl) (fun hb => evg rfl (by first | (simp [hb]; done) | simpa using hb)) rfl) ?_
          simp only [put_lit, List.set_cons_zero, List.set_cons_succ]
          refine wpL_as rfl rfl (ev rfl) ?_
          simp only [put_lit, List.set_cons_zero, List.set_cons_succ]
          iterate 13 (generalize gv _ _ = zz)
          obtain ⟨b', hb'⟩ : ∃ b', b' = ((b && vx) && vy) := ⟨_, rfl⟩
          rw [← hb'] at HK2 ⊢
          clear hb'
          go_wp2
          go_roundw
          case rel => exact ⟨b', k + 1, by omega, rfl, by go_num, HK2.out, HBr.out⟩
          case measure => simp [intOf]; omega
        · have HRB2 : Hid (RI = b) := by
            have h := HK.out
            rwa [List.drop_eq_nil_of_le (by rw [HIL.out]; omega), List.all_nil, Bool.and_true] at h
          obtain ⟨RL, hRL⟩ : ∃ R, R = (RI && f.lists.all (okK h107)) := ⟨_, rfl⟩
          have HRL := Lib.hid hRL
          obtain ⟨u2, rfl⟩ : ∃ v, v = wr := ⟨_, rfl⟩
          have HU2 := Lib.hid HBr.out
          clear hRL HK HBr
          go_wp2
          clear c17
          go_loopw [4, 7] (fun v4 v7 wr => ∃ (b : Bool) (j : Nat), j ≤ 5 ∧ v4 = .bool b ∧ v7 = .int .i64 (j : Int) ∧ Hid (RL = (b && (f.lists.drop j).all (okK h107))) ∧ Hid (Below w1.heap.size w1 wr)) (fun _ v7 _ => 5 - (intOf v7).toNat)
          case atStart => exact ⟨b, 0, by omega, rfl, rfl, (by unfold Hid; rw [HRL.out, HRB2.out]; rfl), HU2.out⟩
          case round =>
            clear HU2 HNr
            obtain ⟨b, j, hj, rfl, rfl, HK, HBr⟩ := hrel
            have HNr := Lib.hid (HN1.out.below HBr.out HN1.out.lt)
            by_cases hlt : j < 5
            · have hsk := HKS.out j hlt
              have hck0 : wr.cell? ⟨w.heap.size, 11 + j, none⟩ = some (([k0, k1, k2, k3, k4][j]'hlt).v) := blk_cell HNr.out (11 + j) (by rw [HCS.out]; exact rowL_get rfl hlt)
              obtain ⟨L, hL⟩ : ∃ L, L = f.lists[j]'hlt := ⟨_, rfl⟩
              have hmem : ∀ x ∈ L, x.size ≤ reachBytes := fun x hx => texts_size HOK.out x (mem_texts hlt (by rw [← hL]; exact hx))
              have hKj := HK.out
              rw [all_dropB (show j < f.lists.length from hlt), show f.lists[j] = f.lists[j]'hlt from rfl, ← hL] at hKj
              obtain ⟨kj, hkj⟩ : ∃ k, k = ([k0, k1, k2, k3, k4][j]'hlt) := ⟨_, rfl⟩
              rw [← hkj] at hsk hck0
              rw [← hL] at hsk
              obtain ⟨kA, kn, kc⟩ := kj
              have HLN : Hid (L.length = kn) := hsk.len
              have hbd := hsk.bd (by decide)
              dsimp only at hbd
              have HSK : Hid (Reads w1 w1.heap.size 1 kA kn (strCells L)) := hsk.reads
              have HMEM := Lib.hid hmem
              have HCK : Hid (wr.cell? ⟨w.heap.size, 11 + j, none⟩ = some (.slice kA kn kc)) := hck0
              have CJ : Hid (wr.cell? ((⟨w.heap.size, 11, none⟩ : Addr).add (j * 1)) = some (.slice kA kn kc)) := by unfold Hid; rw [Nat.mul_one, Go.WideShapes.add_plain]; exact hck0
              obtain ⟨RJ, hRJ⟩ : ∃ R, R = ((b && (h107 || (((kn : Int) : Int) == 0))) && L.all validS) := ⟨_, rfl⟩
              have HRJ := Lib.hid hRJ
              have HKN : Hid (RL = (RJ && (f.lists.drop (j + 1)).all (okK h107))) := by
                unfold Hid
                rw [hKj, okK, HLN.out, hRJ]
                simp only [Bool.and_assoc]
              clear hsk hck0 hL hmem hKj hkj hRJ HK
              go_upto_region 14 with (fail)
              refine wp_region_lit ?_
              refine wpL_mv rfl rfl (ev rfl) ?_
              simp only [put_lit, List.set_cons_zero, List.set_cons_succ]
              refine wpL_mv rfl rfl (ev rfl) ?_
              simp only [put_lit, List.set_cons_zero, List.set_cons_succ]
              refine wpL_mvg (wa rfl rfl rfl) rfl (fun hc => (ev rfl)) ?_
              simp only [put_lit, List.set_cons_zero, List.set_cons_succ]
              refine wpL_c (wa rfl rfl rfl) 116 _ _ rfl #[.string s3, .int .u8 107] (fun hc => mapA2 (evg rfl hc) rfl) Tryz.func116 (by kernel_rfl) (by kernel_rfl) (fun hc => HH107.out _) ?_
              simp only [put_lit, List.set_cons_zero, List.set_cons_succ]
              refine wpL_mvg (wa rfl rfl rfl) rfl (fun hc => (evg rfl hc)) ?_
              simp only [put_lit, List.set_cons_zero, List.set_cons_succ]
              refine wpL_mvg (wg rfl rfl rfl) rfl (fun hc => (ev rfl)) ?_
              simp only [put_lit, List.set_cons_zero, List.set_cons_succ]
              refine wpL_g (wg rfl rfl rfl) (fun hc => r_field 29 _ 11 rfl (ev rfl) Tryz.underlying29 rfl (n := 4) isz_25 rfl) ?_
              simp only [put_lit, List.set_cons_zero, List.set_cons_succ]
              refine wpL_g (wg rfl rfl rfl) (fun hc => r_indexA 25 _ _ rfl (evg rfl hc) (evg rfl hc) hlt Tryz.underlying25 isz_24 rfl) ?_
              simp only [put_lit, List.set_cons_zero, List.set_cons_succ]
              refine wpL_g (wg rfl rfl rfl) (fun hc => r_load 24 _ rfl (evg rfl hc) CJ.out Tryz.underlying24 rfl) ?_
              simp only [put_lit, List.set_cons_zero, List.set_cons_succ]
              refine wpL_g (wg rfl rfl rfl) (fun hc => r_len #[] #[] _ 24 rfl (evg rfl hc) Tryz.underlying24) ?_
              simp only [put_lit, List.set_cons_zero, List.set_cons_succ]
              refine wpL_g (wg rfl rfl rfl) (fun hc => r_ieq 3 _ _ _ rfl (evg rfl hc) rfl) ?_
              simp only [put_lit, List.set_cons_zero, List.set_cons_succ]
              refine wpL_g (wa rfl rfl rfl) (fun hc => r_or _ _ _ rfl (evg rfl hc) rfl (fun hb => evg rfl (by first | (simp [hb, hc]; done) | (simp at hc ⊢; exact ⟨hc, by simpa using hb⟩)))) ?_
              simp only [put_lit, List.set_cons_zero, List.set_cons_succ]
              refine wpL_u rfl (r_and _ _ _ rfl (ev rfl) (fun hb => evg rfl (by first | (simp [hb]; done) | simpa using hb)) rfl) ?_
              simp only [put_lit, List.set_cons_zero, List.set_cons_succ]
              refine wpL_as rfl rfl (ev rfl) ?_
              simp only [put_lit, List.set_cons_zero, List.set_cons_succ]
              iterate 9 (generalize gv _ _ = zz)
              obtain ⟨b', hb'⟩ : ∃ b', b' = (b && (h107 || (((kn : Int) : Int) == 0))) := ⟨_, rfl⟩
              rw [← hb'] at HRJ ⊢
              clear hb' CJ
              obtain ⟨u3, rfl⟩ : ∃ v, v = wr := ⟨_, rfl⟩
              simp only [show decide ((j : Int) < 5) = true from decide_eq_true (by omega)]
              go_wp2
              go_loopw [4, 8] (fun v4 v8 wr => ∃ (b : Bool) (m : Nat), m ≤ kn ∧ v4 = .bool b ∧ v8 = .int .i64 (m : Int) ∧ Hid (RJ = (b && (L.drop m).all validS)) ∧ u3 = wr) (fun _ v8 _ => kn - (intOf v8).toNat)
              case atStart => exact ⟨b', 0, by omega, rfl, rfl, HRJ.out, rfl⟩
              case round =>
                obtain ⟨b, m, hm, rfl, rfl, HK, rfl⟩ := hrel
                by_cases hmk : m < kn
                · have hml : m < L.length := by rw [HLN.out]; exact hmk
                  obtain ⟨ad, hA, hcc⟩ := str_cellB HSK.out HLN.out hml
                  have hxr := HMEM.out _ (List.getElem_mem hml)
                  obtain ⟨x, hx⟩ : ∃ x, x = L[m] := ⟨_, rfl⟩
                  rw [← hx] at hcc hxr
                  obtain ⟨vx, hvx⟩ : ∃ b, b = validS x := ⟨_, rfl⟩
                  have HVX : Hid (∀ W, Calls Tryz.prog 115 #[.string x] W fun e w' => e = .returned (.bool vx) ∧ w' = W) := fun W => by rw [hvx]; exact utf8_same x hxr W
                  have HK2 : Hid (RJ = ((b && vx) && (L.drop (m + 1)).all validS)) := by
                    unfold Hid
                    rw [HK.out, all_dropB hml, ← hx, ← hvx]
                  subst hA
                  have CJ : Hid (u3.cell? ((⟨w.heap.size, 11, none⟩ : Addr).add (j * 1)) = some (.slice (some ad) kn kc)) := by unfold Hid; rw [Nat.mul_one, Go.WideShapes.add_plain]; exact HCK.out
                  have CX : Hid (u3.cell? (ad.add (m * 1)) = some (.string x)) := by unfold Hid; rw [Nat.mul_one]; exact hcc u3 HBr.out
                  clear hx hcc hxr hvx HK
                  go_wp2_with (with_reducible refine wpAt 90 ?_; refine wpList_load1 rfl 24 (.tmp 89) rfl ⟨w.heap.size, 11 + j, none⟩ rfl HCK.out Tryz.underlying24 rfl ?_; refine Hid.out ?_)
                  refine Lib.hid ?_
                  go_upto_region 18 with (fail)
                  refine wp_region_lit ?_
                  refine wpL_mv rfl rfl (ev rfl) ?_
                  simp only [put_lit, List.set_cons_zero, List.set_cons_succ]
                  refine wpL_mv rfl rfl (ev rfl) ?_
                  simp only [put_lit, List.set_cons_zero, List.set_cons_succ]
                  refine wpL_mvg (wa rfl rfl rfl) rfl (fun hc => (ev rfl)) ?_
                  simp only [put_lit, List.set_cons_zero, List.set_cons_succ]
                  refine wpL_g (wa rfl rfl rfl) (fun hc => r_field 29 _ 11 rfl (ev rfl) Tryz.underlying29 rfl (n := 4) isz_25 rfl) ?_
                  simp only [put_lit, List.set_cons_zero, List.set_cons_succ]
                  refine wpL_g (wa rfl rfl rfl) (fun hc => r_indexA 25 _ _ rfl (evg rfl hc) (evg rfl hc) hlt Tryz.underlying25 isz_24 rfl) ?_
                  simp only [put_lit, List.set_cons_zero, List.set_cons_succ]
                  refine wpL_g (wa rfl rfl rfl) (fun hc => r_load 24 _ rfl (evg rfl hc) CJ.out Tryz.underlying24 rfl) ?_
                  simp only [put_lit, List.set_cons_zero, List.set_cons_succ]
                  refine wpL_mvg (wa rfl rfl rfl) rfl (fun hc => (ev rfl)) ?_
                  simp only [put_lit, List.set_cons_zero, List.set_cons_succ]
                  refine wpL_g (wa rfl rfl rfl) (fun hc => r_index 24 _ _ rfl (evg rfl hc) (evg rfl hc) hmk Tryz.underlying24 isz_9 rfl) ?_
                  simp only [put_lit, List.set_cons_zero, List.set_cons_succ]
                  refine wpL_g (wa rfl rfl rfl) (fun hc => r_load 9 _ rfl (evg rfl hc) CX.out Tryz.underlying9 rfl) ?_
                  simp only [put_lit, List.set_cons_zero, List.set_cons_succ]
                  refine wpL_c (wa rfl rfl rfl) 115 _ _ rfl #[.string x] (fun hc => mapA1 (evg rfl hc)) Tryz.func115 (by kernel_rfl) (by kernel_rfl) (fun hc => HVX.out _) ?_
                  simp only [put_lit, List.set_cons_zero, List.set_cons_succ]
                  refine wpL_u rfl (r_and _ _ _ rfl (ev rfl) (fun hb => evg rfl (by first | (simp [hb]; done) | simpa using hb)) rfl) ?_
                  simp only [put_lit, List.set_cons_zero, List.set_cons_succ]
                  refine wpL_as rfl rfl (ev rfl) ?_
                  simp only [put_lit, List.set_cons_zero, List.set_cons_succ]
                  iterate 8 (generalize gv _ _ = zz)
                  obtain ⟨b', hb'⟩ : ∃ b', b' = (b && vx) := ⟨_, rfl⟩
                  rw [← hb'] at HK2 ⊢
                  clear hb'
                  go_wp2
                  go_roundw
                  case rel => exact ⟨b', m + 1, by omega, rfl, by go_num, HK2.out, trivial⟩
                  case measure => simp [intOf]; omega
                · have HRB3 : Hid (RJ = b) := by
                    have h := HK.out
                    rwa [List.drop_eq_nil_of_le (by rw [HLN.out]; omega), List.all_nil, Bool.and_true] at h
                  rw [HRB3.out] at HKN
                  clear HK
                  go_wp2_with (with_reducible refine wpAt 90 ?_; refine wpList_load1 rfl 24 (.tmp 89) rfl ⟨w.heap.size, 11 + j, none⟩ rfl HCK.out Tryz.underlying24 rfl ?_)
                  go_roundw
                  case rel => exact ⟨b, j + 1, by omega, rfl, by go_num, HKN.out, HBr.out⟩
                  case measure => simp [intOf]; omega
            · have HRB3 : Hid (RL = b) := by
                have h := HK.out
                rwa [List.drop_eq_nil_of_le (show f.lists.length ≤ j from by have : f.lists.length = 5 := rfl; omega), List.all_nil, Bool.and_true] at h
              obtain rfl : j = 5 := by omega
              rw [show ((5 : Nat) : Int) = 5 from rfl]
              have HT : Hid (cleanT f = b) := by
                unfold Hid cleanT
                rw [← HE107.out, ← HVPE.out, ← HRB3.out, HRL.out, HRI.out, HRA.out]
              clear HK
              go_upto_region 19 with (fail)
              refine wp_region_lit ?_
              refine wpL_mv rfl rfl (ev rfl) ?_
              simp only [put_lit, List.set_cons_zero, List.set_cons_succ]
              refine wpL_mv rfl rfl (ev rfl) ?_
              simp only [put_lit, List.set_cons_zero, List.set_cons_succ]
              refine wpL_mvg (wa rfl rfl rfl) rfl (fun hc => (ev rfl)) ?_
              simp only [put_lit, List.set_cons_zero, List.set_cons_succ]
              refine wpL_c (wa rfl rfl rfl) 116 _ _ rfl #[.string s3, .int .u8 108] (fun hc => mapA2 (evg rfl hc) rfl) Tryz.func116 (by kernel_rfl) (by kernel_rfl) (fun hc => HH108.out _) ?_
              simp only [put_lit, List.set_cons_zero, List.set_cons_succ]
              refine wpL_mvg (wa rfl rfl rfl) rfl (fun hc => (evg rfl hc)) ?_
              simp only [put_lit, List.set_cons_zero, List.set_cons_succ]
              refine wpL_g (wg rfl rfl rfl) (fun hc => r_field 29 _ 9 rfl (ev rfl) Tryz.underlying29 rfl (n := 0) isz_2 rfl) ?_
              simp only [put_lit, List.set_cons_zero, List.set_cons_succ]
              refine wpL_g (wg rfl rfl rfl) (fun hc => r_load 2 _ rfl (evg rfl hc) (blk_cell HNr.out 9 rfl) Tryz.underlying2 rfl) ?_
              simp only [put_lit, List.set_cons_zero, List.set_cons_succ]
              refine wpL_g (wg rfl rfl rfl) (fun hc => r_ieq 2 _ _ _ rfl (evg rfl hc) rfl) ?_
              simp only [put_lit, List.set_cons_zero, List.set_cons_succ]
              refine wpL_g (wa rfl rfl rfl) (fun hc => r_or _ _ _ rfl (evg rfl hc) rfl (fun hb => evg rfl (by first | (simp [hb, hc]; done) | (simp at hc ⊢; exact ⟨hc, by simpa using hb⟩)))) ?_
              simp only [put_lit, List.set_cons_zero, List.set_cons_succ]
              refine wpL_u rfl (r_and _ _ _ rfl (ev rfl) (fun hb => evg rfl (by first | (simp [hb]; done) | simpa using hb)) rfl) ?_
              simp only [put_lit, List.set_cons_zero, List.set_cons_succ]
              refine wpL_mv rfl rfl (ev rfl) ?_
              simp only [put_lit, List.set_cons_zero, List.set_cons_succ]
              refine wpL_mvg (wa rfl rfl rfl) rfl (fun hc => (ev rfl)) ?_
              simp only [put_lit, List.set_cons_zero, List.set_cons_succ]
              refine wpL_c (wa rfl rfl rfl) 116 _ _ rfl #[.string s3, .int .u8 122] (fun hc => mapA2 (evg rfl hc) rfl) Tryz.func116 (by kernel_rfl) (by kernel_rfl) (fun hc => HH122.out _) ?_
              simp only [put_lit, List.set_cons_zero, List.set_cons_succ]
              refine wpL_mvg (wa rfl rfl rfl) rfl (fun hc => (evg rfl hc)) ?_
              simp only [put_lit, List.set_cons_zero, List.set_cons_succ]
              refine wpL_g (wg rfl rfl rfl) (fun hc => r_field 29 _ 10 rfl (ev rfl) Tryz.underlying29 rfl (n := 0) isz_2 rfl) ?_
              simp only [put_lit, List.set_cons_zero, List.set_cons_succ]
              refine wpL_g (wg rfl rfl rfl) (fun hc => r_load 2 _ rfl (evg rfl hc) (blk_cell HNr.out 10 rfl) Tryz.underlying2 rfl) ?_
              simp only [put_lit, List.set_cons_zero, List.set_cons_succ]
              refine wpL_g (wg rfl rfl rfl) (fun hc => r_ieq 2 _ _ _ rfl (evg rfl hc) rfl) ?_
              simp only [put_lit, List.set_cons_zero, List.set_cons_succ]
              refine wpL_g (wa rfl rfl rfl) (fun hc => r_or _ _ _ rfl (evg rfl hc) rfl (fun hb => evg rfl (by first | (simp [hb, hc]; done) | (simp at hc ⊢; exact ⟨hc, by simpa using hb⟩)))) ?_
              simp only [put_lit, List.set_cons_zero, List.set_cons_succ]
              refine wpL_u rfl (r_and _ _ _ rfl (ev rfl) (fun hb => evg rfl (by first | (simp [hb]; done) | simpa using hb)) rfl) ?_
              simp only [put_lit, List.set_cons_zero, List.set_cons_succ]
              refine wpL_as rfl rfl (ev rfl) ?_
              simp only [put_lit, List.set_cons_zero, List.set_cons_succ]
              iterate 12 (generalize gv _ _ = zz)
              obtain ⟨bA, hq⟩ : ∃ q, q = ((b && (h108 || ((f.tl : Int) == 0))) && (h122 || ((f.zx : Int) == 0))) := ⟨_, rfl⟩
              rw [← hq]
              have HXA : Hid (cleanA f b = bA) := by
                unfold Hid cleanA
                rw [hq, ← HE108.out, ← HE122.out]
              clear hq
              go_upto_region 20 with (fail)
              refine wp_region_lit ?_
              refine wpL_mv rfl rfl (ev rfl) ?_
              simp only [put_lit, List.set_cons_zero, List.set_cons_succ]
              refine wpL_mv rfl rfl (ev rfl) ?_
              simp only [put_lit, List.set_cons_zero, List.set_cons_succ]
              refine wpL_mvg (wa rfl rfl rfl) rfl (fun hc => (ev rfl)) ?_
              simp only [put_lit, List.set_cons_zero, List.set_cons_succ]
              refine wpL_c (wa rfl rfl rfl) 116 _ _ rfl #[.string s3, .int .u8 112] (fun hc => mapA2 (evg rfl hc) rfl) Tryz.func116 (by kernel_rfl) (by kernel_rfl) (fun hc => HH112.out _) ?_
              simp only [put_lit, List.set_cons_zero, List.set_cons_succ]
              refine wpL_mvg (wa rfl rfl rfl) rfl (fun hc => (evg rfl hc)) ?_
              simp only [put_lit, List.set_cons_zero, List.set_cons_succ]
              refine wpL_g (wg rfl rfl rfl) (fun hc => r_field 29 _ 1 rfl (ev rfl) Tryz.underlying29 rfl (n := 0) isz_9 rfl) ?_
              simp only [put_lit, List.set_cons_zero, List.set_cons_succ]
              refine wpL_g (wg rfl rfl rfl) (fun hc => r_load 9 _ rfl (evg rfl hc) (blk_cell HNr.out 1 rfl) Tryz.underlying9 rfl) ?_
              simp only [put_lit, List.set_cons_zero, List.set_cons_succ]
              refine wpL_g (wg rfl rfl rfl) (fun hc => r_seq 9 _ _ _ rfl (evg rfl hc) rfl) ?_
              simp only [put_lit, List.set_cons_zero, List.set_cons_succ]
              refine wpL_g (wa rfl rfl rfl) (fun hc => r_or _ _ _ rfl (evg rfl hc) rfl (fun hb => evg rfl (by first | (simp [hb, hc]; done) | (simp at hc ⊢; exact ⟨hc, by simpa using hb⟩)))) ?_
              simp only [put_lit, List.set_cons_zero, List.set_cons_succ]
              refine wpL_u rfl (r_and _ _ _ rfl (ev rfl) (fun hb => evg rfl (by first | (simp [hb]; done) | simpa using hb)) rfl) ?_
              simp only [put_lit, List.set_cons_zero, List.set_cons_succ]
              refine wpL_mv rfl rfl (ev rfl) ?_
              simp only [put_lit, List.set_cons_zero, List.set_cons_succ]
              refine wpL_mvg (wa rfl rfl rfl) rfl (fun hc => (ev rfl)) ?_
              simp only [put_lit, List.set_cons_zero, List.set_cons_succ]
              refine wpL_c (wa rfl rfl rfl) 116 _ _ rfl #[.string s3, .int .u8 100] (fun hc => mapA2 (evg rfl hc) rfl) Tryz.func116 (by kernel_rfl) (by kernel_rfl) (fun hc => HH100.out _) ?_
              simp only [put_lit, List.set_cons_zero, List.set_cons_succ]
              refine wpL_mvg (wa rfl rfl rfl) rfl (fun hc => (evg rfl hc)) ?_
              simp only [put_lit, List.set_cons_zero, List.set_cons_succ]
              refine wpL_g (wg rfl rfl rfl) (fun hc => r_field 29 _ 2 rfl (ev rfl) Tryz.underlying29 rfl (n := 0) isz_22 rfl) ?_
              simp only [put_lit, List.set_cons_zero, List.set_cons_succ]
              refine wpL_g (wg rfl rfl rfl) (fun hc => r_load 22 _ rfl (evg rfl hc) (blk_cell HNr.out 2 rfl) Tryz.underlying22 rfl) ?_
              simp only [put_lit, List.set_cons_zero, List.set_cons_succ]
              refine wpL_g (wg rfl rfl rfl) (fun hc => r_len #[] #[] _ 22 rfl (evg rfl hc) Tryz.underlying22) ?_
              simp only [put_lit, List.set_cons_zero, List.set_cons_succ]
              refine wpL_g (wg rfl rfl rfl) (fun hc => r_ieq 3 _ _ _ rfl (evg rfl hc) rfl) ?_
              simp only [put_lit, List.set_cons_zero, List.set_cons_succ]
              refine wpL_g (wa rfl rfl rfl) (fun hc => r_or _ _ _ rfl (evg rfl hc) rfl (fun hb => evg rfl (by first | (simp [hb, hc]; done) | (simp at hc ⊢; exact ⟨hc, by simpa using hb⟩)))) ?_
              simp only [put_lit, List.set_cons_zero, List.set_cons_succ]
              refine wpL_u rfl (r_and _ _ _ rfl (ev rfl) (fun hb => evg rfl (by first | (simp [hb]; done) | simpa using hb)) rfl) ?_
              simp only [put_lit, List.set_cons_zero, List.set_cons_succ]
              refine wpL_mv rfl rfl (ev rfl) ?_
              simp only [put_lit, List.set_cons_zero, List.set_cons_succ]
              refine wpL_mvg (wa rfl rfl rfl) rfl (fun hc => (ev rfl)) ?_
              simp only [put_lit, List.set_cons_zero, List.set_cons_succ]
              refine wpL_c (wa rfl rfl rfl) 116 _ _ rfl #[.string s3, .int .u8 97] (fun hc => mapA2 (evg rfl hc) rfl) Tryz.func116 (by kernel_rfl) (by kernel_rfl) (fun hc => HH97.out _) ?_
              simp only [put_lit, List.set_cons_zero, List.set_cons_succ]
              refine wpL_mvg (wa rfl rfl rfl) rfl (fun hc => (evg rfl hc)) ?_
              simp only [put_lit, List.set_cons_zero, List.set_cons_succ]
              refine wpL_g (wg rfl rfl rfl) (fun hc => r_field 29 _ 3 rfl (ev rfl) Tryz.underlying29 rfl (n := 0) isz_23 rfl) ?_
              simp only [put_lit, List.set_cons_zero, List.set_cons_succ]
              refine wpL_g (wg rfl rfl rfl) (fun hc => r_load 23 _ rfl (evg rfl hc) (blk_cell HNr.out 3 rfl) Tryz.underlying23 rfl) ?_
              simp only [put_lit, List.set_cons_zero, List.set_cons_succ]
              refine wpL_g (wg rfl rfl rfl) (fun hc => r_len #[] #[] _ 23 rfl (evg rfl hc) Tryz.underlying23) ?_
              simp only [put_lit, List.set_cons_zero, List.set_cons_succ]
              refine wpL_g (wg rfl rfl rfl) (fun hc => r_ieq 3 _ _ _ rfl (evg rfl hc) rfl) ?_
              simp only [put_lit, List.set_cons_zero, List.set_cons_succ]
              refine wpL_g (wa rfl rfl rfl) (fun hc => r_or _ _ _ rfl (evg rfl hc) rfl (fun hb => evg rfl (by first | (simp [hb, hc]; done) | (simp at hc ⊢; exact ⟨hc, by simpa using hb⟩)))) ?_
              simp only [put_lit, List.set_cons_zero, List.set_cons_succ]
              refine wpL_u rfl (r_and _ _ _ rfl (ev rfl) (fun hb => evg rfl (by first | (simp [hb]; done) | simpa using hb)) rfl) ?_
              simp only [put_lit, List.set_cons_zero, List.set_cons_succ]
              refine wpL_mv rfl rfl (ev rfl) ?_
              simp only [put_lit, List.set_cons_zero, List.set_cons_succ]
              refine wpL_mvg (wa rfl rfl rfl) rfl (fun hc => (ev rfl)) ?_
              simp only [put_lit, List.set_cons_zero, List.set_cons_succ]
              refine wpL_c (wa rfl rfl rfl) 116 _ _ rfl #[.string s3, .int .u8 102] (fun hc => mapA2 (evg rfl hc) rfl) Tryz.func116 (by kernel_rfl) (by kernel_rfl) (fun hc => HH102.out _) ?_
              simp only [put_lit, List.set_cons_zero, List.set_cons_succ]
              refine wpL_mvg (wa rfl rfl rfl) rfl (fun hc => (evg rfl hc)) ?_
              simp only [put_lit, List.set_cons_zero, List.set_cons_succ]
              refine wpL_g (wg rfl rfl rfl) (fun hc => r_field 29 _ 4 rfl (ev rfl) Tryz.underlying29 rfl (n := 0) isz_21 rfl) ?_
              simp only [put_lit, List.set_cons_zero, List.set_cons_succ]
              refine wpL_g (wg rfl rfl rfl) (fun hc => r_load 21 _ rfl (evg rfl hc) (blk_cell HNr.out 4 rfl) Tryz.underlying21 rfl) ?_
              simp only [put_lit, List.set_cons_zero, List.set_cons_succ]
              refine wpL_g (wg rfl rfl rfl) (fun hc => r_ieq 21 _ _ _ rfl (evg rfl hc) rfl) ?_
              simp only [put_lit, List.set_cons_zero, List.set_cons_succ]
              refine wpL_g (wa rfl rfl rfl) (fun hc => r_or _ _ _ rfl (evg rfl hc) rfl (fun hb => evg rfl (by first | (simp [hb, hc]; done) | (simp at hc ⊢; exact ⟨hc, by simpa using hb⟩)))) ?_
              simp only [put_lit, List.set_cons_zero, List.set_cons_succ]
              refine wpL_u rfl (r_and _ _ _ rfl (ev rfl) (fun hb => evg rfl (by first | (simp [hb]; done) | simpa using hb)) rfl) ?_
              simp only [put_lit, List.set_cons_zero, List.set_cons_succ]
              refine wpL_as rfl rfl (ev rfl) ?_
              simp only [put_lit, List.set_cons_zero, List.set_cons_succ]
              iterate 26 (generalize gv _ _ = zz)
              obtain ⟨bC, hq⟩ : ∃ q, q = ((((bA && (h112 || (f.p.toList == (⟨#[]⟩ : ByteArray).toList))) && (h100 || (((d.n : Int) : Int) == 0))) && (h97 || (((a.n : Int) : Int) == 0))) && (h102 || ((f.fl : Int) == 0))) := ⟨_, rfl⟩
              rw [← hq]
              have HXC : Hid (cleanC f bA = bC) := by
                unfold Hid cleanC
                rw [hq, ← HE112.out, ← HE100.out, ← HE97.out, ← HE102.out, HDL.out, HAL.out]
              clear hq
              go_upto_region 21 with (fail)
              refine wp_region_lit ?_
              refine wpL_mv rfl rfl (ev rfl) ?_
              simp only [put_lit, List.set_cons_zero, List.set_cons_succ]
              refine wpL_mv rfl rfl (ev rfl) ?_
              simp only [put_lit, List.set_cons_zero, List.set_cons_succ]
              refine wpL_mvg (wa rfl rfl rfl) rfl (fun hc => (ev rfl)) ?_
              simp only [put_lit, List.set_cons_zero, List.set_cons_succ]
              refine wpL_c (wa rfl rfl rfl) 116 _ _ rfl #[.string s3, .int .u8 118] (fun hc => mapA2 (evg rfl hc) rfl) Tryz.func116 (by kernel_rfl) (by kernel_rfl) (fun hc => HH118.out _) ?_
              simp only [put_lit, List.set_cons_zero, List.set_cons_succ]
              refine wpL_mvg (wa rfl rfl rfl) rfl (fun hc => (evg rfl hc)) ?_
              simp only [put_lit, List.set_cons_zero, List.set_cons_succ]
              refine wpL_g (wg rfl rfl rfl) (fun hc => r_field 29 _ 5 rfl (ev rfl) Tryz.underlying29 rfl (n := 0) isz_21 rfl) ?_
              simp only [put_lit, List.set_cons_zero, List.set_cons_succ]
              refine wpL_g (wg rfl rfl rfl) (fun hc => r_load 21 _ rfl (evg rfl hc) (blk_cell HNr.out 5 rfl) Tryz.underlying21 rfl) ?_
              simp only [put_lit, List.set_cons_zero, List.set_cons_succ]
              refine wpL_g (wg rfl rfl rfl) (fun hc => r_ieq 21 _ _ _ rfl (evg rfl hc) rfl) ?_
              simp only [put_lit, List.set_cons_zero, List.set_cons_succ]
              refine wpL_g (wa rfl rfl rfl) (fun hc => r_or _ _ _ rfl (evg rfl hc) rfl (fun hb => evg rfl (by first | (simp [hb, hc]; done) | (simp at hc ⊢; exact ⟨hc, by simpa using hb⟩)))) ?_
              simp only [put_lit, List.set_cons_zero, List.set_cons_succ]
              refine wpL_u rfl (r_and _ _ _ rfl (ev rfl) (fun hb => evg rfl (by first | (simp [hb]; done) | simpa using hb)) rfl) ?_
              simp only [put_lit, List.set_cons_zero, List.set_cons_succ]
              refine wpL_mv rfl rfl (ev rfl) ?_
              simp only [put_lit, List.set_cons_zero, List.set_cons_succ]
              refine wpL_mvg (wa rfl rfl rfl) rfl (fun hc => (ev rfl)) ?_
              simp only [put_lit, List.set_cons_zero, List.set_cons_succ]
              refine wpL_c (wa rfl rfl rfl) 116 _ _ rfl #[.string s3, .int .u8 119] (fun hc => mapA2 (evg rfl hc) rfl) Tryz.func116 (by kernel_rfl) (by kernel_rfl) (fun hc => HH119.out _) ?_
              simp only [put_lit, List.set_cons_zero, List.set_cons_succ]
              refine wpL_mvg (wa rfl rfl rfl) rfl (fun hc => (evg rfl hc)) ?_
              simp only [put_lit, List.set_cons_zero, List.set_cons_succ]
              refine wpL_g (wg rfl rfl rfl) (fun hc => r_field 29 _ 6 rfl (ev rfl) Tryz.underlying29 rfl (n := 0) isz_4 rfl) ?_
              simp only [put_lit, List.set_cons_zero, List.set_cons_succ]
              refine wpL_g (wg rfl rfl rfl) (fun hc => r_load 4 _ rfl (evg rfl hc) (blk_cell HNr.out 6 rfl) Tryz.underlying4 rfl) ?_
              simp only [put_lit, List.set_cons_zero, List.set_cons_succ]
              refine wpL_g (wg rfl rfl rfl) (fun hc => r_not _ _ rfl (evg rfl hc)) ?_
              simp only [put_lit, List.set_cons_zero, List.set_cons_succ]
              refine wpL_g (wa rfl rfl rfl) (fun hc => r_or _ _ _ rfl (evg rfl hc) rfl (fun hb => evg rfl (by first | (simp [hb, hc]; done) | (simp at hc ⊢; exact ⟨hc, by simpa using hb⟩)))) ?_
              simp only [put_lit, List.set_cons_zero, List.set_cons_succ]
              refine wpL_u rfl (r_and _ _ _ rfl (ev rfl) (fun hb => evg rfl (by first | (simp [hb]; done) | simpa using hb)) rfl) ?_
              simp only [put_lit, List.set_cons_zero, List.set_cons_succ]
              refine wpL_mv rfl rfl (ev rfl) ?_
              simp only [put_lit, List.set_cons_zero, List.set_cons_succ]
              refine wpL_mvg (wa rfl rfl rfl) rfl (fun hc => (ev rfl)) ?_
              simp only [put_lit, List.set_cons_zero, List.set_cons_succ]
              refine wpL_c (wa rfl rfl rfl) 116 _ _ rfl #[.string s3, .int .u8 99] (fun hc => mapA2 (evg rfl hc) rfl) Tryz.func116 (by kernel_rfl) (by kernel_rfl) (fun hc => HH99.out _) ?_
              simp only [put_lit, List.set_cons_zero, List.set_cons_succ]
              refine wpL_mvg (wa rfl rfl rfl) rfl (fun hc => (evg rfl hc)) ?_
              simp only [put_lit, List.set_cons_zero, List.set_cons_succ]
              refine wpL_g (wg rfl rfl rfl) (fun hc => r_field 29 _ 7 rfl (ev rfl) Tryz.underlying29 rfl (n := 0) isz_2 rfl) ?_
              simp only [put_lit, List.set_cons_zero, List.set_cons_succ]
              refine wpL_g (wg rfl rfl rfl) (fun hc => r_load 2 _ rfl (evg rfl hc) (blk_cell HNr.out 7 rfl) Tryz.underlying2 rfl) ?_
              simp only [put_lit, List.set_cons_zero, List.set_cons_succ]
              refine wpL_g (wg rfl rfl rfl) (fun hc => r_ieq 2 _ _ _ rfl (evg rfl hc) rfl) ?_
              simp only [put_lit, List.set_cons_zero, List.set_cons_succ]
              refine wpL_mvg (wg rfl rfl rfl) rfl (fun hc => (evg rfl hc)) ?_
              simp only [put_lit, List.set_cons_zero, List.set_cons_succ]
              refine wpL_g (wg rfl rfl rfl) (fun hc => r_field 29 _ 8 rfl (ev rfl) Tryz.underlying29 rfl (n := 0) isz_2 rfl) ?_
              simp only [put_lit, List.set_cons_zero, List.set_cons_succ]
              refine wpL_g (wg rfl rfl rfl) (fun hc => r_load 2 _ rfl (evg rfl hc) (blk_cell HNr.out 8 rfl) Tryz.underlying2 rfl) ?_
              simp only [put_lit, List.set_cons_zero, List.set_cons_succ]
              refine wpL_g (wg rfl rfl rfl) (fun hc => r_ieq 2 _ _ _ rfl (evg rfl hc) rfl) ?_
              simp only [put_lit, List.set_cons_zero, List.set_cons_succ]
              refine wpL_g (wg rfl rfl rfl) (fun hc => r_and _ _ _ rfl (evg rfl hc) (fun hb => evg rfl (by first | (simp [hb, hc]; done) | (simp at hc ⊢; exact ⟨hc, by simpa using hb⟩))) rfl) ?_
              simp only [put_lit, List.set_cons_zero, List.set_cons_succ]
              refine wpL_g (wa rfl rfl rfl) (fun hc => r_or _ _ _ rfl (evg rfl hc) rfl (fun hb => evg rfl (by first | (simp [hb, hc]; done) | (simp at hc ⊢; exact ⟨hc, by simpa using hb⟩)))) ?_
              simp only [put_lit, List.set_cons_zero, List.set_cons_succ]
              refine wpL_u rfl (r_and _ _ _ rfl (ev rfl) (fun hb => evg rfl (by first | (simp [hb]; done) | simpa using hb)) rfl) ?_
              simp only [put_lit, List.set_cons_zero, List.set_cons_succ]
              refine wpL_as rfl rfl (ev rfl) ?_
              simp only [put_lit, List.set_cons_zero, List.set_cons_succ]
              iterate 22 (generalize gv _ _ = zz)
              obtain ⟨bD, hq⟩ : ∃ q, q = (((bC && (h118 || ((f.ve : Int) == 0))) && (h119 || (!f.wa))) && (h99 || (((f.ct : Int) == 0) && ((f.by_ : Int) == 0)))) := ⟨_, rfl⟩
              rw [← hq]
              have HXD : Hid (cleanD f bC = bD) := by
                unfold Hid cleanD
                rw [hq, ← HE118.out, ← HE119.out, ← HE99.out]
              clear hq
              go_upto_region 22 with (fail)
              refine wp_region_lit ?_
              refine wpL_mv rfl rfl (ev rfl) ?_
              simp only [put_lit, List.set_cons_zero, List.set_cons_succ]
              refine wpL_mv rfl rfl (ev rfl) ?_
              simp only [put_lit, List.set_cons_zero, List.set_cons_succ]
              refine wpL_mvg (wa rfl rfl rfl) rfl (fun hc => (ev rfl)) ?_
              simp only [put_lit, List.set_cons_zero, List.set_cons_succ]
              refine wpL_c (wa rfl rfl rfl) 116 _ _ rfl #[.string s3, .int .u8 116] (fun hc => mapA2 (evg rfl hc) rfl) Tryz.func116 (by kernel_rfl) (by kernel_rfl) (fun hc => HH116.out _) ?_
              simp only [put_lit, List.set_cons_zero, List.set_cons_succ]
              refine wpL_mvg (wa rfl rfl rfl) rfl (fun hc => (evg rfl hc)) ?_
              simp only [put_lit, List.set_cons_zero, List.set_cons_succ]
              refine wpL_g (wg rfl rfl rfl) (fun hc => r_field 29 _ 12 rfl (ev rfl) Tryz.underlying29 rfl (n := 0) isz_21 rfl) ?_
              simp only [put_lit, List.set_cons_zero, List.set_cons_succ]
              refine wpL_g (wg rfl rfl rfl) (fun hc => r_load 21 _ rfl (evg rfl hc) (blk_cell HNr.out 16 rfl) Tryz.underlying21 rfl) ?_
              simp only [put_lit, List.set_cons_zero, List.set_cons_succ]
              refine wpL_g (wg rfl rfl rfl) (fun hc => r_ieq 21 _ _ _ rfl (evg rfl hc) rfl) ?_
              simp only [put_lit, List.set_cons_zero, List.set_cons_succ]
              refine wpL_g (wa rfl rfl rfl) (fun hc => r_or _ _ _ rfl (evg rfl hc) rfl (fun hb => evg rfl (by first | (simp [hb, hc]; done) | (simp at hc ⊢; exact ⟨hc, by simpa using hb⟩)))) ?_
              simp only [put_lit, List.set_cons_zero, List.set_cons_succ]
              refine wpL_u rfl (r_and _ _ _ rfl (ev rfl) (fun hb => evg rfl (by first | (simp [hb]; done) | simpa using hb)) rfl) ?_
              simp only [put_lit, List.set_cons_zero, List.set_cons_succ]
              refine wpL_mv rfl rfl (ev rfl) ?_
              simp only [put_lit, List.set_cons_zero, List.set_cons_succ]
              refine wpL_mvg (wa rfl rfl rfl) rfl (fun hc => (ev rfl)) ?_
              simp only [put_lit, List.set_cons_zero, List.set_cons_succ]
              refine wpL_c (wa rfl rfl rfl) 116 _ _ rfl #[.string s3, .int .u8 105] (fun hc => mapA2 (evg rfl hc) rfl) Tryz.func116 (by kernel_rfl) (by kernel_rfl) (fun hc => HH105.out _) ?_
              simp only [put_lit, List.set_cons_zero, List.set_cons_succ]
              refine wpL_mvg (wa rfl rfl rfl) rfl (fun hc => (evg rfl hc)) ?_
              simp only [put_lit, List.set_cons_zero, List.set_cons_succ]
              refine wpL_g (wg rfl rfl rfl) (fun hc => r_field 29 _ 13 rfl (ev rfl) Tryz.underlying29 rfl (n := 0) isz_26 rfl) ?_
              simp only [put_lit, List.set_cons_zero, List.set_cons_succ]
              refine wpL_g (wg rfl rfl rfl) (fun hc => r_load 26 _ rfl (evg rfl hc) (blk_cell HNr.out 17 rfl) Tryz.underlying26 rfl) ?_
              simp only [put_lit, List.set_cons_zero, List.set_cons_succ]
              refine wpL_g (wg rfl rfl rfl) (fun hc => r_len #[] #[] _ 26 rfl (evg rfl hc) Tryz.underlying26) ?_
              simp only [put_lit, List.set_cons_zero, List.set_cons_succ]
              refine wpL_g (wg rfl rfl rfl) (fun hc => r_ieq 3 _ _ _ rfl (evg rfl hc) rfl) ?_
              simp only [put_lit, List.set_cons_zero, List.set_cons_succ]
              refine wpL_g (wa rfl rfl rfl) (fun hc => r_or _ _ _ rfl (evg rfl hc) rfl (fun hb => evg rfl (by first | (simp [hb, hc]; done) | (simp at hc ⊢; exact ⟨hc, by simpa using hb⟩)))) ?_
              simp only [put_lit, List.set_cons_zero, List.set_cons_succ]
              refine wpL_u rfl (r_and _ _ _ rfl (ev rfl) (fun hb => evg rfl (by first | (simp [hb]; done) | simpa using hb)) rfl) ?_
              simp only [put_lit, List.set_cons_zero, List.set_cons_succ]
              refine wpL_mv rfl rfl (ev rfl) ?_
              simp only [put_lit, List.set_cons_zero, List.set_cons_succ]
              refine wpL_mvg (wa rfl rfl rfl) rfl (fun hc => (ev rfl)) ?_
              simp only [put_lit, List.set_cons_zero, List.set_cons_succ]
              refine wpL_c (wa rfl rfl rfl) 116 _ _ rfl #[.string s3, .int .u8 115] (fun hc => mapA2 (evg rfl hc) rfl) Tryz.func116 (by kernel_rfl) (by kernel_rfl) (fun hc => HH115.out _) ?_
              simp only [put_lit, List.set_cons_zero, List.set_cons_succ]
              refine wpL_mvg (wa rfl rfl rfl) rfl (fun hc => (evg rfl hc)) ?_
              simp only [put_lit, List.set_cons_zero, List.set_cons_succ]
              refine wpL_g (wg rfl rfl rfl) (fun hc => r_field 29 _ 14 rfl (ev rfl) Tryz.underlying29 rfl (n := 0) isz_27 rfl) ?_
              simp only [put_lit, List.set_cons_zero, List.set_cons_succ]
              refine wpL_g (wg rfl rfl rfl) (fun hc => r_load 27 _ rfl (evg rfl hc) (blk_cell HNr.out 18 rfl) Tryz.underlying27 rfl) ?_
              simp only [put_lit, List.set_cons_zero, List.set_cons_succ]
              refine wpL_g (wg rfl rfl rfl) (fun hc => r_len #[] #[] _ 27 rfl (evg rfl hc) Tryz.underlying27) ?_
              simp only [put_lit, List.set_cons_zero, List.set_cons_succ]
              refine wpL_g (wg rfl rfl rfl) (fun hc => r_ieq 3 _ _ _ rfl (evg rfl hc) rfl) ?_
              simp only [put_lit, List.set_cons_zero, List.set_cons_succ]
              refine wpL_g (wa rfl rfl rfl) (fun hc => r_or _ _ _ rfl (evg rfl hc) rfl (fun hb => evg rfl (by first | (simp [hb, hc]; done) | (simp at hc ⊢; exact ⟨hc, by simpa using hb⟩)))) ?_
              simp only [put_lit, List.set_cons_zero, List.set_cons_succ]
              refine wpL_u rfl (r_and _ _ _ rfl (ev rfl) (fun hb => evg rfl (by first | (simp [hb]; done) | simpa using hb)) rfl) ?_
              simp only [put_lit, List.set_cons_zero, List.set_cons_succ]
              refine wpL_as rfl rfl (ev rfl) ?_
              simp only [put_lit, List.set_cons_zero, List.set_cons_succ]
              iterate 20 (generalize gv _ _ = zz)
              obtain ⟨bE, hq⟩ : ∃ q, q = (((bD && (h116 || ((f.to : Int) == 0))) && (h105 || (((i.n : Int) : Int) == 0))) && (h115 || (((s.n : Int) : Int) == 0))) := ⟨_, rfl⟩
              rw [← hq]
              have HXE : Hid (cleanE f s.n bD = bE) := by
                unfold Hid cleanE
                rw [hq, ← HE116.out, ← HE105.out, ← HE115.out, HIL.out]
              clear hq
              go_wp2
              go_ret
              exact ⟨by rw [HRR.out, cleanB, HT.out, HXA.out, HXC.out, HXD.out, HXE.out]; rfl, HB1.out.trans (HBr.out.mono HB1.out.size)⟩
end Go.Proofs.YtpjjnmdfgcfnmaaGreatDoor
