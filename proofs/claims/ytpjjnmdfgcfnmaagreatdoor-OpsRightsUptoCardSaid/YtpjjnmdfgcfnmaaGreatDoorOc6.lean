/- The document's size: the walk. -/
import Derived.Test.YtpjjnmdfgcfnmaaGreatDoorOcb
import Derived.Test.YtpjjnmdfgcfnmaaGreatDoorLine
set_option linter.unusedVariables false
set_option linter.unusedSimpArgs false
namespace Go.Proofs.YtpjjnmdfgcfnmaaGreatDoor
open Go.RowKit

theorem big_t {f : OpF} {n : Nat} (ht : f.t = 22) (h : 1024 < n) : bigB f n = true := by
  have : decide ((n : Int) > 1024) = true := decide_eq_true (by omega)
  simp [bigB, manyB, ht, this]
theorem acl_cellsO {w : World} {B n : Nat} {A : Option Addr} {L : List AclT} (h : Reads w B 3 A n (aclCells L)) (hn : L.length = n) {j : Nat} (hj : j < L.length) : ∃ ad, A = some ad ∧ w.cell? (ad.add (j * 3 + 1)) = some (.string L[j].2.1) ∧ w.cell? (ad.add (j * 3 + 2)) = some (.string L[j].2.2) := by
  obtain ⟨ad, hA, _, hc⟩ := h.2 (by omega)
  obtain ⟨_, h1, h2⟩ := aclCells_get L j hj
  exact ⟨ad, hA, hc _ _ h1, hc _ _ h2⟩
theorem wpList_load1g {P : Program} {ops : Array Oper} {rest : List Oper} {o : Oper} {a : Act} {w : World} {Q : Exit → Act → World → Prop} (hw : Region.wanted o (yielded ops a.tmps) = true) (ty : TypeId) (x : Operand) (ho : o.op = .load ty x)
    (ad : Addr) (hx : a.eval x = .pointer (some ad)) {v : Value} (hc : w.cell? ad = some v) {d : TypeDesc} (hu : P.underlying ty = some d) (hd : (match d with | .struct _ | .array _ _ => false | _ => true) = true)
    (h : wpList P ops Q rest (a.put o.dst v) w) : wpList P ops Q (o :: rest) a w := wpList_step fun K hK => step_val hw (r_load ty x ho hx hc hu hd) (hK _ _ h)
theorem big_id {f : OpF} {n : Nat} {x : ByteArray × ByteArray} (hx : x ∈ f.ids) (h : 256 < x.1.size ∨ 256 < x.2.size) : bigB f n = true := by
  have : f.ids.any longI = true := List.any_eq_true.2 ⟨x, hx, by unfold longI; rcases h with h | h <;> simp <;> omega⟩
  simp [bigB, this]
theorem big_fix {f : OpF} {n : Nat} (h : 4096 < f.p.size ∨ 1048575 < f.l.length ∨ 16 < f.L.length ∨ 16 < f.I.length) : bigB f n = true := by
  rcases h with h | h | h | h
  · simp [bigB, show decide ((f.p.size : Int) > 4096) = true from decide_eq_true (by omega)]
  · simp [bigB, show decide ((f.l.length : Int) > 1048575) = true from decide_eq_true (by omega)]
  · simp [bigB, show decide ((f.L.length : Int) > 16) = true from decide_eq_true (by omega)]
  · simp [bigB, show decide ((f.I.length : Int) > 16) = true from decide_eq_true (by omega)]
theorem texts_at {f : OpF} {x : ByteArray} (h : x ∈ f.texts) : ∃ j, ∃ hj : j < 5, x ∈ f.lists[j]'hj := by
  simp only [OpF.texts, List.mem_append] at h
  rcases h with h | h | h | h | h
  · exact ⟨0, by decide, h⟩
  · exact ⟨1, by decide, h⟩
  · exact ⟨2, by decide, h⟩
  · exact ⟨3, by decide, h⟩
  · exact ⟨4, by decide, h⟩
theorem big_no {f : OpF} {n : Nat} (h0 : ((f.t == 22) && decide ((n : Int) > 1024)) = false) (hL : ∀ z (hz : z < 5), (f.lists[z]'hz).length ≤ 1024 ∧ ∀ x ∈ f.lists[z]'hz, x.size ≤ 4096) (h1 : ¬ 4096 < f.p.size) (h2 : ¬ 1048575 < f.l.length) (h3 : ¬ 16 < f.L.length) (h4 : ¬ 16 < f.I.length)
    (hA : ∀ z (hz : z < f.L.length), (f.L[z]).2.1.size ≤ 256 ∧ (f.L[z]).2.2.size ≤ 256) (hI : ∀ z (hz : z < f.I.length), (f.I[z]).1.size ≤ 256 ∧ (f.I[z]).2.size ≤ 256) : bigB f n = false := by
  have a1 : (f.lists.any fun l => decide ((l.length : Int) > 1024)) = false := List.any_eq_false.2 fun l hl => by
    obtain ⟨j, hj, rfl⟩ := List.mem_iff_getElem.1 hl
    have := (hL j hj).1
    simp; omega
  have a2 : f.texts.any longP = false := List.any_eq_false.2 fun x hx => by
    obtain ⟨j, hj, hm⟩ := texts_at hx
    have := (hL j hj).2 x hm
    unfold longP
    simp; omega
  have a3 : f.ids.any longI = false := List.any_eq_false.2 fun x hx => by
    have : x.1.size ≤ 256 ∧ x.2.size ≤ 256 := by
      rcases List.mem_append.1 hx with h | h
      · obtain ⟨j, hj, rfl⟩ := List.mem_iff_getElem.1 h
        exact hI j hj
      · obtain ⟨y, hy, rfl⟩ := List.mem_map.1 h
        obtain ⟨j, hj, rfl⟩ := List.mem_iff_getElem.1 hy
        exact hA j hj
    unfold longI
    simp; omega
  unfold bigB manyB
  rw [a1, a2, a3, h0, decide_eq_false (by omega : ¬ (f.p.size : Int) > 4096), decide_eq_false (by omega : ¬ (f.l.length : Int) > 1048575), decide_eq_false (by omega : ¬ (f.L.length : Int) > 16), decide_eq_false (by omega : ¬ (f.I.length : Int) > 16)]
  rfl
set_option maxRecDepth 100000 in
set_option maxHeartbeats 8000000 in
theorem refSize_any {lo : Option Nat} (f : OpF) (d a k0 k1 k2 k3 k4 i s : Sl) (w : World) (h : FAt w lo f d a k0 k1 k2 k3 k4 i) (hsn : s.n ≤ 4611686018427387904) (cs : Array Value) (hcs : cs = (f.row d a k0 k1 k2 k3 k4 i s).toArray) :
    Calls Tryz.prog 73 #[.agg cs] w fun e w' => e = .returned (.int .i64 (if bigB f s.n then 3 else 0)) ∧ Below w.heap.size w w' := by
  have HCS : Hid (cs = (f.rowL d a [k0, k1, k2, k3, k4] i s).toArray) := hcs
  obtain ⟨w1, hw1⟩ : ∃ w1, w.alloc (.cells cs 29) = w1 := ⟨_, rfl⟩
  have hb1 := newB hw1
  have hn1 := newK hw1
  have HB1 := Lib.hid hb1
  have HN1 := Lib.hid hn1
  have c0 : w1.cell? ⟨w.heap.size, 0, none⟩ = some (.int .i32 f.t) := blk_cell hn1 0 (by rw [hcs]; rfl)
  have c1 : w1.cell? ⟨w.heap.size, 1, none⟩ = some (.string f.p) := blk_cell hn1 1 (by rw [hcs]; rfl)
  have c2 : w1.cell? ⟨w.heap.size, 2, none⟩ = some (.slice d.A d.n d.c) := blk_cell hn1 2 (by rw [hcs]; rfl)
  have c3 : w1.cell? ⟨w.heap.size, 3, none⟩ = some (.slice a.A a.n a.c) := blk_cell hn1 3 (by rw [hcs]; rfl)
  have c17 : w1.cell? ⟨w.heap.size, 17, none⟩ = some (.slice i.A i.n i.c) := blk_cell hn1 17 (by rw [hcs]; rfl)
  have c18 : w1.cell? ⟨w.heap.size, 18, none⟩ = some (.slice s.A s.n s.c) := blk_cell hn1 18 (by rw [hcs]; rfl)
  have HH := Lib.hid (h.later hb1)
  clear h hcs hb1 hn1
  by_cases h22 : f.t = 22 ∧ 1024 < s.n
  · obtain ⟨ht, hs⟩ := h22
    rw [big_t ht hs, if_pos rfl]
    rw [ht] at c0
    go_enter Tryz.func73, Tryz.ntmps73
    go_wp2
    go_ret
    exact ⟨rfl, HB1.out⟩
  have hcase : (f.t = 22 ∧ ¬ 1024 < s.n) ∨ ¬ f.t = 22 := by
    by_cases ht : f.t = 22
    · exact .inl ⟨ht, fun hs => h22 ⟨ht, hs⟩⟩
    · exact .inr ht
  have HNT : Hid (((f.t == 22) && decide ((s.n : Int) > 1024)) = false) := by
    unfold Hid
    rcases hcase with ⟨ht, hs⟩ | ht
    · rw [show decide ((s.n : Int) > 1024) = false from decide_eq_false (by omega), Bool.and_false]
    · rw [show (f.t == 22) = false from by simpa using ht, Bool.false_and]
  have HKS : Hid (∀ j (hj : j < 5), SlAt w1 lo 9 1 16 ([k0, k1, k2, k3, k4][j]'hj) (f.lists[j]'hj).length (strCells (f.lists[j]'hj))) := fun j hj => by
    rcases (by omega : j = 0 ∨ j = 1 ∨ j = 2 ∨ j = 3 ∨ j = 4) with rfl | rfl | rfl | rfl | rfl
    · exact HH.out.k0
    · exact HH.out.k1
    · exact HH.out.k2
    · exact HH.out.k3
    · exact HH.out.k4
  obtain ⟨tt, htt⟩ : ∃ t, t = f.t := ⟨_, rfl⟩
  rw [← htt] at c0 hcase
  clear h22 htt
  obtain ⟨r, hr⟩ : ∃ r : Int, r = if bigB f s.n then 3 else 0 := ⟨_, rfl⟩
  rw [← hr]
  have HRR := Lib.hid hr
  clear hr
  rcases hcase with ⟨rfl, hs1⟩ | ht1
  rotate_left
  have htb : (tt == 22) = false := by simpa using ht1
  all_goals
    go_enter Tryz.func73, Tryz.ntmps73
    go_wp2
    go_loopw [3] (fun v3 wr => ∃ j : Nat, j ≤ 5 ∧ v3 = .int .i64 (j : Int) ∧ w1 = wr ∧ Hid (∀ z (hz : z < 5), z < j → (f.lists[z]'hz).length ≤ 1024 ∧ ∀ x ∈ f.lists[z]'hz, x.size ≤ 4096)) (fun v3 _ => 5 - (intOf v3).toNat)
    case atStart => exact ⟨0, by omega, rfl, rfl, fun z _ hz => absurd hz (by omega)⟩
    case round =>
      obtain ⟨j, hj, rfl, rfl, HJ⟩ := hrel
      by_cases hlt : j < 5
      · have hsk := HKS.out j hlt
        have hck0 : w1.cell? ⟨w.heap.size, 11 + j, none⟩ = some (([k0, k1, k2, k3, k4][j]'hlt).v) := blk_cell HN1.out (11 + j) (by rw [HCS.out]; exact rowL_get rfl hlt)
        obtain ⟨kj, hkj⟩ : ∃ k, k = ([k0, k1, k2, k3, k4][j]'hlt) := ⟨_, rfl⟩
        rw [← hkj] at hsk hck0
        have HCK : Hid (w1.cell? ⟨w.heap.size, 11 + j, none⟩ = some (.slice kj.A kj.n kj.c)) := hck0
        have HSK := Lib.hid hsk
        have hkl : (f.lists[j]'hlt).length = kj.n := hsk.len
        have HKL := Lib.hid hkl
        have hbd := hsk.bd (by decide)
        clear hkj hsk hck0 hkl
        by_cases hlen : 1024 < kj.n
        · have HBIG := Lib.hid (big_kl (n := s.n) hlt (by rw [HKL.out]; exact hlen))
          go_wp2_with (with_reducible refine wpAt 23 ?_; refine wpList_load1 rfl 24 (.tmp 22) rfl ⟨w.heap.size, 11 + j, none⟩ rfl HCK.out Tryz.underlying24 rfl ?_)
          go_ret
          exact ⟨by rw [HRR.out, if_pos HBIG.out]; rfl, HB1.out⟩
        · go_wp2_with (with_reducible refine wpAt 23 ?_; refine wpList_load1 rfl 24 (.tmp 22) rfl ⟨w.heap.size, 11 + j, none⟩ rfl HCK.out Tryz.underlying24 rfl ?_)
          go_loopw [4] (fun v4 wr => ∃ m : Nat, m ≤ kj.n ∧ v4 = .int .i64 (m : Int) ∧ w1 = wr ∧ Hid (∀ z (hz : z < (f.lists[j]'hlt).length), z < m → ((f.lists[j]'hlt)[z]).size ≤ 4096)) (fun v4 _ => kj.n - (intOf v4).toNat)
          case atStart => exact ⟨0, by omega, rfl, rfl, fun z _ hz => absurd hz (by omega)⟩
          case round =>
            obtain ⟨m, hm, rfl, rfl, HM⟩ := hrel
            by_cases hmk : m < kj.n
            · have hml : m < (f.lists[j]'hlt).length := by rw [HKL.out]; exact hmk
              obtain ⟨ad, hA, hsc⟩ := str_cellO HSK.out.reads HKL.out hml
              obtain ⟨kA, kn, kc⟩ := kj
              dsimp only at hA hmk hlen hbd hm HCK
              subst hA
              obtain ⟨x, hx⟩ : ∃ x, x = (f.lists[j]'hlt)[m] := ⟨_, rfl⟩
              rw [← hx] at hsc
              have HX := Lib.hid hx
              have HSC := Lib.hid hsc
              clear hx hsc
              by_cases hxl : 4096 < x.size
              · have HBIG : Hid (bigB f s.n = true) := big_kt (x := x) hlt (by rw [HX.out]; exact List.getElem_mem _) hxl
                go_wp2_with (first
                  | (with_reducible refine wpAt 30 ?_; refine wpList_load1 rfl 24 (.tmp 29) rfl ⟨w.heap.size, 11 + j, none⟩ rfl HCK.out Tryz.underlying24 rfl ?_)
                  | (with_reducible refine wpAt 38 ?_; refine wpList_load1 rfl 24 (.tmp 37) rfl ⟨w.heap.size, 11 + j, none⟩ rfl HCK.out Tryz.underlying24 rfl ?_)
                  | (with_reducible refine wpAt 41 ?_; refine wpList_load1 rfl 9 (.tmp 40) rfl (ad.add m) rfl HSC.out Tryz.underlying9 rfl ?_))
                go_ret
                exact ⟨by rw [HRR.out, if_pos HBIG.out]; rfl, HB1.out⟩
              · have HM' : Hid (∀ z (hz : z < (f.lists[j]'hlt).length), z < m + 1 → ((f.lists[j]'hlt)[z]).size ≤ 4096) := fun z hz hzm => by
                  rcases Nat.lt_or_ge z m with h | h
                  · exact HM.out z hz h
                  · obtain rfl : z = m := by omega
                    rw [← HX.out]
                    omega
                go_wp2_with (first
                  | (with_reducible refine wpAt 30 ?_; refine wpList_load1 rfl 24 (.tmp 29) rfl ⟨w.heap.size, 11 + j, none⟩ rfl HCK.out Tryz.underlying24 rfl ?_)
                  | (with_reducible refine wpAt 38 ?_; refine wpList_load1 rfl 24 (.tmp 37) rfl ⟨w.heap.size, 11 + j, none⟩ rfl HCK.out Tryz.underlying24 rfl ?_)
                  | (with_reducible refine wpAt 41 ?_; refine wpList_load1 rfl 9 (.tmp 40) rfl (ad.add m) rfl HSC.out Tryz.underlying9 rfl ?_))
                go_roundw
                case rel => exact ⟨m + 1, by omega, by go_num, trivial, HM'.out⟩
                case measure => simp [intOf]; omega
            · have HJ' : Hid (∀ z (hz : z < 5), z < j + 1 → (f.lists[z]'hz).length ≤ 1024 ∧ ∀ x ∈ f.lists[z]'hz, x.size ≤ 4096) := fun z hz hzj => by
                rcases Nat.lt_or_ge z j with h | h
                · exact HJ.out z hz h
                · obtain rfl : z = j := by omega
                  refine ⟨by rw [HKL.out]; omega, fun x hx => ?_⟩
                  obtain ⟨y, hy, rfl⟩ := List.mem_iff_getElem.1 hx
                  exact HM.out y hy (by rw [HKL.out] at hy; omega)
              go_wp2_with (with_reducible refine wpAt 30 ?_; refine wpList_load1 rfl 24 (.tmp 29) rfl ⟨w.heap.size, 11 + j, none⟩ rfl HCK.out Tryz.underlying24 rfl ?_)
              go_roundw
              case rel => exact ⟨j + 1, by omega, by go_num, trivial, HJ'.out⟩
              case measure => simp [intOf]; omega
      · obtain rfl : j = 5 := by omega
        rw [show ((5 : Nat) : Int) = 5 from rfl]
        have HLs : Hid (∀ z (hz : z < 5), (f.lists[z]'hz).length ≤ 1024 ∧ ∀ x ∈ f.lists[z]'hz, x.size ≤ 4096) := fun z hz => HJ.out z hz hz
        have HDL : Hid (f.l.length = d.n) := HH.out.d.len
        have HAL : Hid (f.L.length = a.n) := HH.out.a.len
        have HIL : Hid (f.I.length = i.n) := HH.out.i.len
        clear HJ hlt hj HKS
        by_cases hfix : 4096 < f.p.size ∨ 1048575 < d.n ∨ 16 < a.n ∨ 16 < i.n
        · have HBIG : Hid (bigB f s.n = true) := big_fix (by rw [HDL.out, HAL.out, HIL.out]; exact hfix)
          have hd4 : (4096 < f.p.size) ∨ (¬ 4096 < f.p.size ∧ 1048575 < d.n) ∨ (¬ 4096 < f.p.size ∧ ¬ 1048575 < d.n ∧ 16 < a.n) ∨ (¬ 4096 < f.p.size ∧ ¬ 1048575 < d.n ∧ ¬ 16 < a.n ∧ 16 < i.n) := by omega
          clear hfix
          rcases hd4 with h1 | ⟨h1, h2⟩ | ⟨h1, h2, h3⟩ | ⟨h1, h2, h3, h4⟩
          all_goals
            go_wp2
            go_ret
            exact ⟨by rw [HRR.out, if_pos HBIG.out]; rfl, HB1.out⟩
        · have h1 : ¬ 4096 < f.p.size := by omega
          have h2 : ¬ 1048575 < d.n := by omega
          have h3 : ¬ 16 < a.n := by omega
          have h4 : ¬ 16 < i.n := by omega
          clear hfix
          go_wp2
          go_loopw [5] (fun v5 wr => ∃ k : Nat, k ≤ a.n ∧ v5 = .int .i64 (k : Int) ∧ w1 = wr ∧ Hid (∀ z (hz : z < f.L.length), z < k → (f.L[z]).2.1.size ≤ 256 ∧ (f.L[z]).2.2.size ≤ 256)) (fun v5 _ => a.n - (intOf v5).toNat)
          case atStart => exact ⟨0, by omega, rfl, rfl, fun z _ hz => absurd hz (by omega)⟩
          case round =>
            obtain ⟨k, hk, rfl, rfl, HK⟩ := hrel
            by_cases hka : k < a.n
            · have hkl : k < f.L.length := by rw [HAL.out]; exact hka
              obtain ⟨ad, hA, hs1', hs2'⟩ := acl_cellsO HH.out.a.reads HAL.out hkl
              obtain ⟨x, hx⟩ : ∃ x, x = (f.L[k]).2.1 := ⟨_, rfl⟩
              obtain ⟨y, hy⟩ : ∃ y, y = (f.L[k]).2.2 := ⟨_, rfl⟩
              rw [← hx] at hs1'
              rw [← hy] at hs2'
              have HX := Lib.hid hx
              have HY := Lib.hid hy
              have HS1 := Lib.hid hs1'
              have HS2 := Lib.hid hs2'
              rw [hA] at c3
              have HC3 := Lib.hid c3
              clear hx hy hs1' hs2' hA
              go_wp2_with (with_reducible refine wpAt 73 ?_; refine Hid.out ?_)
              refine Lib.hid ?_
              refine wpL_u rfl (r_field 29 _ 3 rfl (ev rfl) Tryz.underlying29 rfl (n := 0) isz_23 rfl) ?_
              simp only [put_lit, List.set_cons_zero, List.set_cons_succ]
              refine wpL_u rfl (r_load 23 _ rfl (ev rfl) HC3.out Tryz.underlying23 rfl) ?_
              simp only [put_lit, List.set_cons_zero, List.set_cons_succ]
              refine wpL_mv rfl rfl (ev rfl) ?_
              simp only [put_lit, List.set_cons_zero, List.set_cons_succ]
              refine wpL_u rfl (r_index 23 _ _ rfl (ev rfl) (ev rfl) hka Tryz.underlying23 isz_104 rfl) ?_
              simp only [put_lit, List.set_cons_zero, List.set_cons_succ]
              refine wpL_u rfl (r_field 104 _ 1 rfl (ev rfl) Tryz.underlying104 rfl (n := 1) isz_102 (Addr.add_add _ _ _)) ?_
              simp only [put_lit, List.set_cons_zero, List.set_cons_succ]
              refine wpL_u rfl (r_field 102 _ 0 rfl (ev rfl) Tryz.underlying102 rfl (n := 0) isz_9 rfl) ?_
              simp only [put_lit, List.set_cons_zero, List.set_cons_succ]
              refine wpL_u rfl (r_load 9 _ rfl (ev rfl) HS1.out Tryz.underlying9 rfl) ?_
              simp only [put_lit, List.set_cons_zero, List.set_cons_succ]
              refine wpL_u rfl (r_lens _ 9 rfl (ev rfl) Tryz.underlying9) ?_
              simp only [put_lit, List.set_cons_zero, List.set_cons_succ]
              refine wpL_u rfl (r_igt 3 _ _ _ rfl (ev rfl) rfl) ?_
              simp only [put_lit, List.set_cons_zero, List.set_cons_succ]
              refine wpL_mv rfl rfl (ev rfl) ?_
              simp only [put_lit, List.set_cons_zero, List.set_cons_succ]
              refine wpL_g (wa rfl rfl rfl) (fun hc => r_field 29 _ 3 rfl (ev rfl) Tryz.underlying29 rfl (n := 0) isz_23 rfl) ?_
              simp only [put_lit, List.set_cons_zero, List.set_cons_succ]
              refine wpL_g (wa rfl rfl rfl) (fun hc => r_load 23 _ rfl (evg rfl hc) HC3.out Tryz.underlying23 rfl) ?_
              simp only [put_lit, List.set_cons_zero, List.set_cons_succ]
              refine wpL_mvg (wa rfl rfl rfl) rfl (fun hc => (ev rfl)) ?_
              simp only [put_lit, List.set_cons_zero, List.set_cons_succ]
              refine wpL_g (wa rfl rfl rfl) (fun hc => r_index 23 _ _ rfl (evg rfl hc) (evg rfl hc) hka Tryz.underlying23 isz_104 rfl) ?_
              simp only [put_lit, List.set_cons_zero, List.set_cons_succ]
              refine wpL_g (wa rfl rfl rfl) (fun hc => r_field 104 _ 1 rfl (evg rfl hc) Tryz.underlying104 rfl (n := 1) isz_102 (Addr.add_add _ _ _)) ?_
              simp only [put_lit, List.set_cons_zero, List.set_cons_succ]
              refine wpL_g (wa rfl rfl rfl) (fun hc => r_field 102 _ 1 rfl (evg rfl hc) Tryz.underlying102 rfl (n := 0) isz_9 (Addr.add_add _ _ _)) ?_
              simp only [put_lit, List.set_cons_zero, List.set_cons_succ]
              refine wpL_g (wa rfl rfl rfl) (fun hc => r_load 9 _ rfl (evg rfl hc) HS2.out Tryz.underlying9 rfl) ?_
              simp only [put_lit, List.set_cons_zero, List.set_cons_succ]
              refine wpL_g (wa rfl rfl rfl) (fun hc => r_lens _ 9 rfl (evg rfl hc) Tryz.underlying9) ?_
              simp only [put_lit, List.set_cons_zero, List.set_cons_succ]
              refine wpL_g (wa rfl rfl rfl) (fun hc => r_igt 3 _ _ _ rfl (evg rfl hc) rfl) ?_
              simp only [put_lit, List.set_cons_zero, List.set_cons_succ]
              refine wpL_u rfl (r_or _ _ _ rfl (ev rfl) rfl (fun hb => evg rfl (by simp [hb]))) ?_
              simp only [put_lit, List.set_cons_zero, List.set_cons_succ]
              obtain ⟨g, hg⟩ : ∃ g, g = ((decide (((x.size : Int) : Int) > 256)) || (decide (((y.size : Int) : Int) > 256))) := ⟨_, rfl⟩
              rw [← hg]
              cases g
              rotate_left
              · have hg' : 256 < x.size ∨ 256 < y.size := by
                  have h := hg.symm
                  rw [Bool.or_eq_true, decide_eq_true_iff, decide_eq_true_iff] at h
                  omega
                have HBIG : Hid (bigB f s.n = true) := big_id (x := (x, y)) (List.mem_append_right _ (List.mem_map.2 ⟨_, List.getElem_mem hkl, by rw [HX.out, HY.out]⟩)) hg'
                clear hg hg'
                go_wp2
                go_ret
                exact ⟨by rw [HRR.out, if_pos HBIG.out]; rfl, HB1.out⟩
              · have hg' : x.size ≤ 256 ∧ y.size ≤ 256 := by
                  have h := hg.symm
                  rw [Bool.or_eq_false_iff, decide_eq_false_iff_not, decide_eq_false_iff_not] at h
                  omega
                have HK' : Hid (∀ z (hz : z < f.L.length), z < k + 1 → (f.L[z]).2.1.size ≤ 256 ∧ (f.L[z]).2.2.size ≤ 256) := fun z hz hzk => by
                  rcases Nat.lt_or_ge z k with h | h
                  · exact HK.out z hz h
                  · obtain rfl : z = k := by omega
                    rw [← HX.out, ← HY.out]
                    exact hg'
                clear hg hg'
                go_wp2
                go_roundw
                case rel => exact ⟨k + 1, by omega, by go_num, trivial, HK'.out⟩
                case measure => simp [intOf]; omega
            · have HA' : Hid (∀ z (hz : z < f.L.length), (f.L[z]).2.1.size ≤ 256 ∧ (f.L[z]).2.2.size ≤ 256) := fun z hz => HK.out z hz (by rw [HAL.out] at hz; omega)
              clear HK
              go_wp2
              go_loopw [6] (fun v6 wr => ∃ k : Nat, k ≤ i.n ∧ v6 = .int .i64 (k : Int) ∧ w1 = wr ∧ Hid (∀ z (hz : z < f.I.length), z < k → (f.I[z]).1.size ≤ 256 ∧ (f.I[z]).2.size ≤ 256)) (fun v6 _ => i.n - (intOf v6).toNat)
              case atStart => exact ⟨0, by omega, rfl, rfl, fun z _ hz => absurd hz (by omega)⟩
              case round =>
                obtain ⟨k, hk, rfl, rfl, HK⟩ := hrel
                by_cases hka : k < i.n
                · have hkl : k < f.I.length := by rw [HIL.out]; exact hka
                  obtain ⟨ad, hA, hs1', hs2'⟩ := id_cellsO HH.out.i.reads HIL.out hkl
                  obtain ⟨x, hx⟩ : ∃ x, x = (f.I[k]).1 := ⟨_, rfl⟩
                  obtain ⟨y, hy⟩ : ∃ y, y = (f.I[k]).2 := ⟨_, rfl⟩
                  rw [← hx] at hs1'
                  rw [← hy] at hs2'
                  have HX := Lib.hid hx
                  have HY := Lib.hid hy
                  have HS1 := Lib.hid hs1'
                  have HS2 := Lib.hid hs2'
                  rw [hA] at c17
                  have HC17 := Lib.hid c17
                  clear hx hy hs1' hs2' hA
                  go_wp2_with (with_reducible refine wpAt 100 ?_; refine Hid.out ?_)
                  refine Lib.hid ?_
                  refine wpL_u rfl (r_field 29 _ 13 rfl (ev rfl) Tryz.underlying29 rfl (n := 0) isz_26 rfl) ?_
                  simp only [put_lit, List.set_cons_zero, List.set_cons_succ]
                  refine wpL_u rfl (r_load 26 _ rfl (ev rfl) HC17.out Tryz.underlying26 rfl) ?_
                  simp only [put_lit, List.set_cons_zero, List.set_cons_succ]
                  refine wpL_mv rfl rfl (ev rfl) ?_
                  simp only [put_lit, List.set_cons_zero, List.set_cons_succ]
                  refine wpL_u rfl (r_index 26 _ _ rfl (ev rfl) (ev rfl) hka Tryz.underlying26 isz_102 rfl) ?_
                  simp only [put_lit, List.set_cons_zero, List.set_cons_succ]
                  refine wpL_u rfl (r_field 102 _ 0 rfl (ev rfl) Tryz.underlying102 rfl (n := 0) isz_9 rfl) ?_
                  simp only [put_lit, List.set_cons_zero, List.set_cons_succ]
                  refine wpL_u rfl (r_load 9 _ rfl (ev rfl) HS1.out Tryz.underlying9 rfl) ?_
                  simp only [put_lit, List.set_cons_zero, List.set_cons_succ]
                  refine wpL_u rfl (r_lens _ 9 rfl (ev rfl) Tryz.underlying9) ?_
                  simp only [put_lit, List.set_cons_zero, List.set_cons_succ]
                  refine wpL_u rfl (r_igt 3 _ _ _ rfl (ev rfl) rfl) ?_
                  simp only [put_lit, List.set_cons_zero, List.set_cons_succ]
                  refine wpL_mv rfl rfl (ev rfl) ?_
                  simp only [put_lit, List.set_cons_zero, List.set_cons_succ]
                  refine wpL_g (wa rfl rfl rfl) (fun hc => r_field 29 _ 13 rfl (ev rfl) Tryz.underlying29 rfl (n := 0) isz_26 rfl) ?_
                  simp only [put_lit, List.set_cons_zero, List.set_cons_succ]
                  refine wpL_g (wa rfl rfl rfl) (fun hc => r_load 26 _ rfl (evg rfl hc) HC17.out Tryz.underlying26 rfl) ?_
                  simp only [put_lit, List.set_cons_zero, List.set_cons_succ]
                  refine wpL_mvg (wa rfl rfl rfl) rfl (fun hc => (ev rfl)) ?_
                  simp only [put_lit, List.set_cons_zero, List.set_cons_succ]
                  refine wpL_g (wa rfl rfl rfl) (fun hc => r_index 26 _ _ rfl (evg rfl hc) (evg rfl hc) hka Tryz.underlying26 isz_102 rfl) ?_
                  simp only [put_lit, List.set_cons_zero, List.set_cons_succ]
                  refine wpL_g (wa rfl rfl rfl) (fun hc => r_field 102 _ 1 rfl (evg rfl hc) Tryz.underlying102 rfl (n := 0) isz_9 (Addr.add_add _ _ _)) ?_
                  simp only [put_lit, List.set_cons_zero, List.set_cons_succ]
                  refine wpL_g (wa rfl rfl rfl) (fun hc => r_load 9 _ rfl (evg rfl hc) HS2.out Tryz.underlying9 rfl) ?_
                  simp only [put_lit, List.set_cons_zero, List.set_cons_succ]
                  refine wpL_g (wa rfl rfl rfl) (fun hc => r_lens _ 9 rfl (evg rfl hc) Tryz.underlying9) ?_
                  simp only [put_lit, List.set_cons_zero, List.set_cons_succ]
                  refine wpL_g (wa rfl rfl rfl) (fun hc => r_igt 3 _ _ _ rfl (evg rfl hc) rfl) ?_
                  simp only [put_lit, List.set_cons_zero, List.set_cons_succ]
                  refine wpL_u rfl (r_or _ _ _ rfl (ev rfl) rfl (fun hb => evg rfl (by simp [hb]))) ?_
                  simp only [put_lit, List.set_cons_zero, List.set_cons_succ]
                  obtain ⟨g, hg⟩ : ∃ g, g = ((decide (((x.size : Int) : Int) > 256)) || (decide (((y.size : Int) : Int) > 256))) := ⟨_, rfl⟩
                  rw [← hg]
                  cases g
                  rotate_left
                  · have hg' : 256 < x.size ∨ 256 < y.size := by
                      have h := hg.symm
                      rw [Bool.or_eq_true, decide_eq_true_iff, decide_eq_true_iff] at h
                      omega
                    have HBIG : Hid (bigB f s.n = true) := big_id (x := (x, y)) (List.mem_append_left _ (by rw [HX.out, HY.out]; exact List.getElem_mem hkl)) hg'
                    clear hg hg'
                    go_wp2
                    go_ret
                    exact ⟨by rw [HRR.out, if_pos HBIG.out]; rfl, HB1.out⟩
                  · have hg' : x.size ≤ 256 ∧ y.size ≤ 256 := by
                      have h := hg.symm
                      rw [Bool.or_eq_false_iff, decide_eq_false_iff_not, decide_eq_false_iff_not] at h
                      omega
                    have HK' : Hid (∀ z (hz : z < f.I.length), z < k + 1 → (f.I[z]).1.size ≤ 256 ∧ (f.I[z]).2.size ≤ 256) := fun z hz hzk => by
                      rcases Nat.lt_or_ge z k with h | h
                      · exact HK.out z hz h
                      · obtain rfl : z = k := by omega
                        rw [← HX.out, ← HY.out]
                        exact hg'
                    clear hg hg'
                    go_wp2
                    go_roundw
                    case rel => exact ⟨k + 1, by omega, by go_num, trivial, HK'.out⟩
                    case measure => simp [intOf]; omega
                · have HBIG : Hid (bigB f s.n = false) := big_no HNT.out HLs.out h1 (by rw [HDL.out]; exact h2) (by rw [HAL.out]; exact h3) (by rw [HIL.out]; exact h4) HA'.out (fun z hz => HK.out z hz (by rw [HIL.out] at hz; omega))
                  go_wp2
                  go_ret
                  exact ⟨by rw [HRR.out, if_neg (by rw [HBIG.out]; decide)]; rfl, HB1.out⟩
end Go.Proofs.YtpjjnmdfgcfnmaaGreatDoor
