/- The document's ops.Get: types that may not be read; the types with operations, by what subs does. (printed by gen_h6.py) -/
import Derived.Test.YtpjjnmdfgcfnmaaGreatDoorOh4
set_option linter.unusedVariables false
set_option linter.unusedSimpArgs false
namespace Go.Proofs.YtpjjnmdfgcfnmaaGreatDoor
open Go.RowKit

theorem zrow_one : (#[.int .i32 0, .string ⟨#[]⟩, .slice none 0 0, .slice none 0 0, .int .i32 0, .int .i32 0, .bool false, .int .i64 0, .int .i64 0, .int .i64 0, .int .i64 0, .slice none 0 0, .slice none 0 0, .slice none 0 0, .slice none 0 0, .slice none 0 0, .int .i32 0, .slice none 0 0, .slice none 0 0] : Array Value).all (·.oneCell') = true := row_one (zF 0) nilS nilS nilS nilS nilS nilS nilS nilS nilS
set_option maxRecDepth 100000 in
set_option maxHeartbeats 4000000 in
theorem rget_bad (t : Int) (hb : kindN t = 0 ∨ kindN t = 5) (hwf : (Lit.int .i32 t).wf = true) (base R C c p : Nat) (A : Option Addr) (l : List UInt8) (inn : Int) (cv : Value) (val : OpC × Cnt → Value → World → Prop) (w : World) (h : RR w base R A c l p 0) (hC : C < w.heap.size) :
    Calls Tryz.prog 62 #[.pointer (some ⟨R, 0, none⟩), .int .i32 t, .int .i64 inn, cv] w (RGot base R C c A l val (.inr (110, p)) w) := by
  obtain ⟨wa, hwa⟩ : ∃ wa, w.alloc (.cells #[.int .i32 0, .string ⟨#[]⟩, .slice none 0 0, .slice none 0 0, .int .i32 0, .int .i32 0, .bool false, .int .i64 0, .int .i64 0, .int .i64 0, .int .i64 0, .slice none 0 0, .slice none 0 0, .slice none 0 0, .slice none 0 0, .slice none 0 0, .int .i32 0, .slice none 0 0, .slice none 0 0] 29) = wa := ⟨_, rfl⟩
  have hza : wa.heap.size = w.heap.size + 1 := by rw [← hwa]; simp
  obtain ⟨w1, hw1⟩ : ∃ w1, wa.alloc (.cells ((zF t).row nilS nilS nilS nilS nilS nilS nilS nilS nilS).toArray 29) = w1 := ⟨_, rfl⟩
  have H0 := Lib.hid (HSt.start h hC (t := t) hwf hwa hw1)
  obtain ⟨kn, hkn⟩ : ∃ k, k = kindN t := ⟨_, rfl⟩
  have HK : Hid (∀ W, Calls Tryz.prog 12 #[.int .i32 t] W fun e w' => e = .returned (.int .i64 kn) ∧ w' = W) := fun W => by rw [hkn]; exact refKind_any t W
  rw [← hkn] at hb
  have HI : Hid ((Tryz.prog.info? 29).map (·.size) = some (#[.int .i32 0, .string ⟨#[]⟩, .slice none 0 0, .slice none 0 0, .int .i32 0, .int .i32 0, .bool false, .int .i64 0, .int .i64 0, .int .i64 0, .int .i64 0, .slice none 0 0, .slice none 0 0, .slice none 0 0, .slice none 0 0, .slice none 0 0, .int .i32 0, .slice none 0 0, .slice none 0 0] : Array Value).size) := isz_29
  have hRw := h.lt
  clear hkn h hwf
  rcases hb with rfl | rfl
  all_goals
    go_enter Tryz.func62, Tryz.ntmps62
    go_wp2_with (first
      | (with_reducible refine wpAt 9 ?_
         refine wpList_newrow rfl rfl 29 rfl 9 rfl (.tmp 16) rfl rfl ((zF t).row nilS nilS nilS nilS nilS nilS nilS nilS nilS).toArray (fun _ => rfl) (show 9 < 153 by decide) zer_op isz_29 (row_one _ _ _ _ _ _ _ _ _ _) ?_
         rw [hw1])
      | (go_at_call 12
         refine (HK.out _).mono ?_
         rintro e w2 ⟨rfl, he⟩
         obtain rfl := he.symm)
      | (go_at_call 89
         refine (dFailU _ _ _ _ _ _ _ 110 H0.out.rdr).mono ?_
         rintro e w3 ⟨rfl, hk, hR⟩
         have HRES := Lib.hid (H0.out.res.kp hk (by simp; omega))
         have HKP := Lib.hid (H0.out.kp.trans hk.two)
         have HRR := Lib.hid hR
         have hz3 := HKP.out.size
         clear hk hR)
      | ((with_reducible show wpList _ _ _ (Oper.mk none (.store _ (.tmp 8) _) _ _ _ _ :: _) _ _)
         refine wpList_store_row rfl 29 (.tmp 8) (.tmp 27) rfl w.heap.size #[.int .i32 0, .string ⟨#[]⟩, .slice none 0 0, .slice none 0 0, .int .i32 0, .int .i32 0, .bool false, .int .i64 0, .int .i64 0, .int .i64 0, .int .i64 0, .slice none 0 0, .slice none 0 0, .slice none 0 0, .slice none 0 0, .slice none 0 0, .int .i32 0, .slice none 0 0, .slice none 0 0] rfl rfl 29 _ HRES.out HI.out rfl zrow_one ?_
         have hbz := cells_setRow (cs := #[.int .i32 0, .string ⟨#[]⟩, .slice none 0 0, .slice none 0 0, .int .i32 0, .int .i32 0, .bool false, .int .i64 0, .int .i64 0, .int .i64 0, .int .i64 0, .slice none 0 0, .slice none 0 0, .slice none 0 0, .slice none 0 0, .slice none 0 0, .int .i32 0, .slice none 0 0, .slice none 0 0]) HRES.out
         have hkz : Kp [w.heap.size] w3 (w3.setRow w.heap.size #[.int .i32 0, .string ⟨#[]⟩, .slice none 0 0, .slice none 0 0, .int .i32 0, .int .i32 0, .bool false, .int .i64 0, .int .i64 0, .int .i64 0, .int .i64 0, .slice none 0 0, .slice none 0 0, .slice none 0 0, .slice none 0 0, .slice none 0 0, .int .i32 0, .slice none 0 0, .slice none 0 0]) := Kp.setRow _ _
         generalize hww : World.setRow _ _ _ = wz at hbz hkz ⊢
         have HBZ := Lib.hid hbz
         have HKZ := Lib.hid hkz
         clear hww hbz hkz))
    refine bodyPost_ret (results_cell_row rfl _ _ w.heap.size 29 _ _ _ rfl HBZ.out Tryz.underlying29 rfl HI.out) rfl ?_
    exact ⟨⟨(#[.int .i32 0, .string ⟨#[]⟩, .slice none 0 0, .slice none 0 0, .int .i32 0, .int .i32 0, .bool false, .int .i64 0, .int .i64 0, .int .i64 0, .int .i64 0, .slice none 0 0, .slice none 0 0, .slice none 0 0, .slice none 0 0, .slice none 0 0, .int .i32 0, .slice none 0 0, .slice none 0 0] : Array Value).toList, by simp, rfl, zrow_one⟩, by decide, HKP.out.to HKZ.out (fun _ hx _ => hx) (fun y hy hl => by simp at hy; omega), HRR.out.kp HKZ.out (by simp; omega) (by have := HRR.out.old; simp; omega)⟩

/-! the types with operations -/
section
variable {w0 w w' : World} {base : Nat} {R C c q q' : Nat} {A : Option Addr} {l : List UInt8} {f : OpF} {d a k0 k1 k2 k3 k4 i s : Sl}
theorem HSt.set_s (h : HSt w0 base R C c A l q f d a k0 k1 k2 k3 k4 i s w) (s' : Sl) : HSt w0 base R C c A l q f d a k0 k1 k2 k3 k4 i s' (w.setCell ⟨w0.heap.size + 1, 18, none⟩ s'.v) := by
  obtain ⟨h1, h2, h3, h4, h5⟩ := h.set_ 18 s'.v
  exact ⟨h1, h2, h3, h4, h.old, h.oldC, h.fat.kp h5 (by simp), h.ok⟩
theorem At.lo' {b b' : Nat} {x : OpC} {cs : List Value} (h : At w (some b) x cs) (hb : b' ≤ b) : At w (some b') x cs := h.lo rfl hb
end
/-- where the loop over the one field stands -/
def St2 (w0 : World) (base R C c : Nat) (A : Option Addr) (l : List UInt8) (t : Int) (K : Array Value) (G : ((OpC × Cnt) × Nat) ⊕ (Int × Nat)) (p : Nat) (KK : Cnt → Array Value) (k : Nat) (w : World) : Prop :=
  (k = 0 ∧ HSt w0 base R C c A l p (zF t) nilS nilS nilS nilS nilS nilS nilS nilS nilS w ∧ Blk w C 98 K) ∨
  (k = 1 ∧ ∃ (s : Sl) (Q : List (OpC × List Value)) (k' : Cnt) (q : Nat), HSt w0 base R C c A l q (zF t) nilS nilS nilS nilS nilS nilS nilS nilS s w ∧ SlAt w (some (w0.heap.size + 2)) 29 19 296 s Q.length (Q.flatMap Prod.snd) ∧ (∀ z ∈ Q, At w (some (w0.heap.size + 2)) z.1 z.2) ∧ Blk w C 98 (KK k') ∧ G = .inl ((.mk (zF t) (Q.map Prod.fst), k'), q)) ∨
  (k = 1 ∧ ∃ (q : Nat) (er : Int), Dead w0 base R C c A l q er w ∧ G = .inr (er, q))
set_option maxRecDepth 100000 in
set_option maxHeartbeats 8000000 in
theorem rget_14 (n : Nat) (HS : RSubsOk n) (base R C c p : Nat) (A : Option Addr) (l : List UInt8) (inn : Int) (pr mr : Nat) (k : Cnt) (w : World) (h : RR w base R A c l p 0) (hC : Blk w C 98 (cRow pr mr)) (hCR : C ≠ R) (hbC : base ≤ C) (hk1 : k.parts ≤ 1024) (hk2 : k.multis ≤ 1024) (hinn : inn = k.depth) (hd : k.depth < 8) (hpr : pr = k.parts) (hmr : mr = k.multis) (hp : l.length - p < n) :
    Calls Tryz.prog 62 #[.pointer (some ⟨R, 0, none⟩), .int .i32 14, .int .i64 inn, .pointer (some ⟨C, 0, none⟩)] w (RGot base R C c A l (vGetR w.heap.size C 14 pr mr) (opWith (gSubs n) 14 k l p) w) := by
  have HPR := Lib.hid hpr
  have HMR := Lib.hid hmr
  have HIN := Lib.hid hinn
  have HDD := Lib.hid hd
  have hi1 : 0 ≤ inn := by omega
  have hi2 : inn ≤ 8 := by omega
  clear hpr hmr hinn hd
  obtain ⟨wa, hwa⟩ : ∃ wa, w.alloc (.cells #[.int .i32 0, .string ⟨#[]⟩, .slice none 0 0, .slice none 0 0, .int .i32 0, .int .i32 0, .bool false, .int .i64 0, .int .i64 0, .int .i64 0, .int .i64 0, .slice none 0 0, .slice none 0 0, .slice none 0 0, .slice none 0 0, .slice none 0 0, .int .i32 0, .slice none 0 0, .slice none 0 0] 29) = wa := ⟨_, rfl⟩
  have hza : wa.heap.size = w.heap.size + 1 := by rw [← hwa]; simp
  obtain ⟨w1, hw1⟩ : ∃ w1, wa.alloc (.cells ((zF 14).row nilS nilS nilS nilS nilS nilS nilS nilS nilS).toArray 29) = w1 := ⟨_, rfl⟩
  have H0 := HSt.start h hC.lt (t := 14) rfl hwa hw1
  have hC1 : Blk w1 C 98 (cRow pr mr) := by
    have h1 := newB hwa
    have h2 := newB hw1
    exact hC.below (h1.trans (h2.mono h1.size)) hC.lt
  obtain ⟨G, hG⟩ : ∃ G, G = opWith (gSubs n) 14 k l p := ⟨_, rfl⟩
  rw [← hG]
  have HG0 : Hid (G = ((gSubs n 14 ⟨k.parts, k.multis, k.depth + 1⟩).map fun r => ((.mk (zF 14) r.1, ⟨r.2.parts, r.2.multis, r.2.depth - 1⟩) : OpC × Cnt)) l p) := hG.trans (by unfold opWith; rw [if_neg (by decide), if_pos rfl])
  have HST : Hid (St2 w base R C c A l 14 (cRow pr mr) G p (fun k' => cRow k'.parts k'.multis) 0 w1) := .inl ⟨rfl, H0, hC1⟩
  have HSB := Lib.hid HS
  have HK : Hid (∀ W, Calls Tryz.prog 12 #[.int .i32 14] W fun e w' => e = .returned (.int .i64 2) ∧ w' = W) := fun W => refKind_any 14 W
  have HFI : Hid (∀ W, Calls Tryz.prog 54 #[.int .i32 14] W fun e w' => e = .returned (.string ⟨#[115]⟩) ∧ w' = W) := fun W => fields_any 14 W
  have HCR := Lib.hid hCR
  have HBC := Lib.hid hbC
  have HCL := Lib.hid hC.lt
  have HRL := Lib.hid h.lt
  clear H0 hC1 hG h hC HS hCR hbC
  obtain ⟨s3, hs3⟩ : ∃ s3 : ByteArray, s3 = ⟨#[115]⟩ := ⟨_, rfl⟩
  have hsz : s3.size = 1 := by rw [hs3]; rfl
  have HIX : Hid (∀ W, (Instr.index 9 (.string s3) (.int .i64 0)).run Tryz.prog W = .ok (.int .u8 115) W) := fun W => by
    rw [run_index_string W _ s3 .i64 0 Tryz.underlying9, dif_pos ⟨by omega, by omega⟩]
    subst hs3
    rfl
  rw [← hs3] at HFI
  clear hs3
  go_enter Tryz.func62, Tryz.ntmps62
  go_wp2_with (first
    | (with_reducible refine wpAt 9 ?_
       refine wpList_newrow rfl rfl 29 rfl 9 rfl (.tmp 16) rfl rfl ((zF 14).row nilS nilS nilS nilS nilS nilS nilS nilS nilS).toArray (fun _ => rfl) (show 9 < 153 by decide) zer_op isz_29 (row_one _ _ _ _ _ _ _ _ _ _) ?_
       rw [hw1])
    | (go_at_call 12
       refine (HK.out _).mono ?_
       rintro e w2 ⟨rfl, he⟩
       obtain rfl := he.symm)
    | (go_at_call 54
       refine (HFI.out _).mono ?_
       rintro e w2 ⟨rfl, he⟩
       obtain rfl := he.symm))
  clear HK HFI
  go_loopw [12] (fun v12 wr => ∃ k : Nat, v12 = .int .i64 (k : Int) ∧ k ≤ 1 ∧ Hid (St2 w base R C c A l 14 (cRow pr mr) G p (fun k' => cRow k'.parts k'.multis) k wr)) (fun v12 _ => 1 - (intOf v12).toNat)
  case atStart => exact ⟨0, rfl, by omega, HST.out⟩
  case round =>
    clear HST
    obtain ⟨kk, rfl, hkk, HS⟩ := hrel
    rcases HS.out with ⟨rfl, hst, hcb⟩ | ⟨rfl, s, Q, k', q, hst, hsl, hat, hcb, hg⟩ | ⟨rfl, q, er, hdd, hg⟩
    rotate_left
    · -- read
      rw [show ((1 : Nat) : Int) = 1 from rfl]
      obtain ⟨c0, c1, c2, f1, f2⟩ := hst.rdr.cells
      obtain ⟨cs, hcs⟩ : ∃ cs, cs = ((zF 14).row nilS nilS nilS nilS nilS nilS nilS nilS s).toArray := ⟨_, rfl⟩
      have HB : Hid (Blk wr (w.heap.size + 1) 29 cs) := by rw [hcs]; exact hst.blk
      have HI : Hid ((Tryz.prog.info? 29).map (·.size) = some cs.size) := by unfold Hid; rw [hcs]; exact isz_29
      have HO : Hid (cs.all (·.oneCell') = true) := by unfold Hid; rw [hcs]; exact row_one _ _ _ _ _ _ _ _ _ _
      have HZZ : Hid (19 = cs.size) := by unfold Hid; rw [hcs]; rfl
      have HRES := Lib.hid hst.res
      have HN := Lib.hid hst
      have HCS := Lib.hid hcs
      have HSL := Lib.hid hsl
      have HAT := Lib.hid hat
      have HCB := Lib.hid hcb
      have HG := Lib.hid hg
      clear hst hsl hat hcb hg HS hcs
      go_wp2_with (first
          | (with_reducible refine wpAt 152 ?_
             refine wpList_load_row rfl 29 (.tmp 9) rfl (w.heap.size + 1) rfl 29 _ _ _ HB.out Tryz.underlying29 rfl HI.out ?_)
          | ((with_reducible show wpList _ _ _ (Oper.mk none (.store _ (.tmp 8) _) _ _ _ _ :: _) _ _)
             refine wpList_store_row rfl 29 (.tmp 8) (.tmp 152) rfl w.heap.size cs rfl rfl 29 _ HRES.out HI.out HZZ.out HO.out ?_
             have hbz := cells_setRow (cs := cs) HRES.out
             have hkz : Kp [w.heap.size] wr (wr.setRow w.heap.size cs) := Kp.setRow _ _
             have HFIN := Lib.hid (HN.out.fin cs)
             generalize hww : World.setRow _ _ _ = wz at hbz hkz HFIN ⊢
             have HBZ := Lib.hid hbz
             have HKZ := Lib.hid hkz
             clear hww hbz hkz))
      refine bodyPost_ret (results_cell_row rfl _ _ w.heap.size 29 _ _ _ rfl HBZ.out Tryz.underlying29 rfl HI.out) rfl ?_
      rw [HG.out]
      obtain ⟨hf1, hf2, hf3⟩ := HFIN.out
      have hcb2 := HCB.out.kp HKZ.out (by have := HCL.out; simp; omega)
      exact ⟨⟨_, rfl, ⟨_, by rw [HCS.out], .mk (zF 14) nilS nilS nilS nilS nilS nilS nilS nilS s Q HN.out.ok hf3.d hf3.a hf3.k0 hf3.k1 hf3.k2 hf3.k3 hf3.k4 hf3.i ((HSL.out.kp HKZ.out (by simp)).lo (by omega)) (fun z hz => ((HAT.out z hz).kp' HKZ.out (by simp)).lo' (by omega))⟩, hcb2⟩, hf1, hf2⟩
    · -- it has failed
      rw [show ((1 : Nat) : Int) = 1 from rfl]
      obtain ⟨c0, c1, c2, f1, f2⟩ := hdd.rdr.cells
      have hne := hdd.ne
      have hnb : (er == 0) = false := by simpa using hne
      obtain ⟨cs, hb, hz, ho⟩ := hdd.row
      have HB := Lib.hid hb
      have HZ : Hid (19 = cs.size) := hz.symm
      have HI : Hid ((Tryz.prog.info? 29).map (·.size) = some cs.size) := by unfold Hid; rw [hz]; exact isz_29
      have HO := Lib.hid ho
      have HRES := Lib.hid hdd.res
      have HD := Lib.hid hdd
      have HG := Lib.hid hg
      have HZ19 := Lib.hid hz
      clear hdd hne hb hz ho hg HS
      go_wp2_with (first
          | (with_reducible refine wpAt 152 ?_
             refine wpList_load_row rfl 29 (.tmp 9) rfl (w.heap.size + 1) rfl 29 _ _ _ HB.out Tryz.underlying29 rfl HI.out ?_)
          | ((with_reducible show wpList _ _ _ (Oper.mk none (.store _ (.tmp 8) _) _ _ _ _ :: _) _ _)
             refine wpList_store_row rfl 29 (.tmp 8) (.tmp 152) rfl w.heap.size cs rfl rfl 29 _ HRES.out HI.out HZ.out HO.out ?_
             have hbz := cells_setRow (cs := cs) HRES.out
             have HFIN := Lib.hid (HD.out.fin cs)
             generalize hww : World.setRow _ _ _ = wz at hbz HFIN ⊢
             have HBZ := Lib.hid hbz
             clear hww hbz))
      refine bodyPost_ret (results_cell_row rfl _ _ w.heap.size 29 _ _ _ rfl HBZ.out Tryz.underlying29 rfl HI.out) rfl ?_
      rw [HG.out]
      exact ⟨⟨cs.toList, by simp, by rw [Array.length_toList]; exact HZ19.out, by simpa using HO.out⟩, HD.out.ne, HFIN.out.1, HFIN.out.2⟩
    · -- the parts
      rw [show ((0 : Nat) : Int) = 0 from rfl]
      obtain ⟨c0, c1, c2, f1, f2⟩ := hst.rdr.cells
      have HN := Lib.hid hst
      have HCB := Lib.hid hcb
      have hx := HIX.out wr
      have HZ : Hid (w.heap.size + 2 ≤ wr.heap.size) := hst.size
      clear hst hcb HS
      have hsub := HSB.out base R C c p A l 14 (inn + 1) mr ⟨k.parts, k.multis, k.depth + 1⟩ wr HN.out.rdr (by rw [← HPR.out]; exact HCB.out) HCR.out HBC.out hk1 hk2 (by rw [HMR.out]; exact hk2) (by have := HDD.out; dsimp only; omega) (.inr ⟨HMR.out, by rw [HIN.out]; simp⟩) hp
      rcases h1 : gSubs n 14 ⟨k.parts, k.multis, k.depth + 1⟩ l p with ⟨⟨xs, k'⟩, q⟩ | ⟨er, q⟩
      rotate_left
      · have HGE : Hid (G = .inr (er, q)) := HG0.out.trans (by unfold Rg.map; rw [h1])
        rw [h1] at hsub
        have HSUB := Lib.hid hsub
        clear hsub h1 hx
        have hx := HIX.out wr
        go_wp2_with (go_at_call 97; refine HSUB.out.mono ?_; rintro e w2 ⟨⟨A', n', c', rfl⟩, hne, hkp, hR⟩; have HKP := Lib.hid hkp; have hb2 := HN.out.blk.kp HKP.out (by have := HN.out.old; have := HN.out.oldC; simp; omega); have kc := hb2.cell; have kf := hb2.frozen; have hr2 := HN.out.res.kp HKP.out (by have := HN.out.old; have := HN.out.oldC; simp; omega); have HB2 := Lib.hid hb2; have HR2 := Lib.hid hr2; have HRR := Lib.hid hR; have HNE := Lib.hid hne; clear hkp hR hne hb2 hr2; refine Hid.out ?_)
        refine Lib.hid ?_
        clear c0 c1 c2 f1 f2
        obtain ⟨w3, hw3⟩ : ∃ w3, w2.setCell ⟨w.heap.size + 1, 18, none⟩ (.slice A' n' c') = w3 := ⟨_, rfl⟩
        have HDD3 : Hid (Dead w base R C c A l q er w3) := by
          unfold Hid
          rw [← hw3]
          have ho := HN.out.old
          have hoC := HN.out.oldC
          have hlw := HRR.out.old
          exact ⟨HRR.out.set (by omega) (by omega) 18 _, HNE.out, HR2.out.far (p := ⟨w.heap.size + 1, 18, none⟩) (by simp) _, (HN.out.kp.trans HKP.out).set_ (by omega) 18 _, ho, hoC, _, HB2.out.set_ 18 _, by simp [OpF.row], set_one (row_one _ _ _ _ _ _ _ _ _ _) 18 rfl⟩
        go_wp2
        go_roundw
        case rel => exact ⟨1, rfl, by omega, .inr (.inr ⟨rfl, _, _, HDD3.out, HGE.out⟩)⟩
        case measure => simp [intOf]
      have HGE : Hid (G = .inl ((.mk (zF 14) xs, ⟨k'.parts, k'.multis, k'.depth - 1⟩), q)) := HG0.out.trans (by unfold Rg.map; rw [h1])
      rw [h1] at hsub
      have HSUB := Lib.hid hsub
      clear hsub h1 hx
      have hx := HIX.out wr
      go_wp2_with (go_at_call 97; refine HSUB.out.mono ?_; rintro e w2 ⟨⟨A', c', Q, rfl, hxs, hql, hfl, hcb⟩, hkp, hR⟩; have HKP := Lib.hid hkp; have HN2 := Lib.hid (HN.out.read HKP.out hR); have kc := HN2.out.blk.cell; have kf := HN2.out.blk.frozen; have HFL := Lib.hid (hfl.at_ (by unfold reachBytes; omega)); have HCB2 := Lib.hid hcb; have HXS := Lib.hid hxs; clear hkp hR hfl hcb hxs; refine Hid.out ?_)
      refine Lib.hid ?_
      clear c0 c1 c2 f1 f2
      obtain ⟨w3, hw3⟩ : ∃ w3, w2.setCell ⟨w.heap.size + 1, 18, none⟩ (.slice A' Q.length c') = w3 := ⟨_, rfl⟩
      have HS3 : Hid (HSt w base R C c A l q (zF 14) nilS nilS nilS nilS nilS nilS nilS nilS ⟨A', Q.length, c'⟩ w3) := by unfold Hid; rw [← hw3]; exact HN2.out.set_s ⟨A', Q.length, c'⟩
      have hk3 : Kp [w.heap.size + 1] w2 w3 := by rw [← hw3]; exact Kp.setCell ⟨w.heap.size + 1, 18, none⟩ _
      have HSL : Hid (SlAt w3 (some (w.heap.size + 2)) 29 19 296 ⟨A', Q.length, c'⟩ Q.length (Q.flatMap Prod.snd)) := (HFL.out.1.kp hk3 (by have := HZ.out; simp; omega)).lo (by have := HZ.out; omega)
      have HAT : Hid (∀ z ∈ Q, At w3 (some (w.heap.size + 2)) z.1 z.2) := fun z hz => ((HFL.out.2 z hz).kp' hk3 (by have := HZ.out; simp; omega)).lo' (by have := HZ.out; omega)
      have HC3 : Hid (Blk w3 C 98 (cRow k'.parts k'.multis)) := HCB2.out.kp hk3 (by have := HCL.out; simp; omega)
      clear hk3
      go_wp2
      go_roundw
      case rel => exact ⟨1, rfl, by omega, .inr (.inl ⟨rfl, _, Q, ⟨k'.parts, k'.multis, k'.depth - 1⟩, q, HS3.out, HSL.out, HAT.out, HC3.out, by rw [HXS.out]; exact HGE.out⟩)⟩
      case measure => simp [intOf]
set_option maxRecDepth 100000 in
set_option maxHeartbeats 8000000 in
theorem rget_22 (n : Nat) (HS : RSubsOk n) (base R C c p : Nat) (A : Option Addr) (l : List UInt8) (inn : Int) (pr mr : Nat) (k : Cnt) (w : World) (h : RR w base R A c l p 0) (hC : Blk w C 98 (cRow pr mr)) (hCR : C ≠ R) (hbC : base ≤ C) (hk1 : k.parts ≤ 1024) (hk2 : k.multis ≤ 1024) (hp : l.length - p < n) :
    Calls Tryz.prog 62 #[.pointer (some ⟨R, 0, none⟩), .int .i32 22, .int .i64 inn, .pointer (some ⟨C, 0, none⟩)] w (RGot base R C c A l (vGetR w.heap.size C 22 pr mr) (opWith (gSubs n) 22 k l p) w) := by
  obtain ⟨wa, hwa⟩ : ∃ wa, w.alloc (.cells #[.int .i32 0, .string ⟨#[]⟩, .slice none 0 0, .slice none 0 0, .int .i32 0, .int .i32 0, .bool false, .int .i64 0, .int .i64 0, .int .i64 0, .int .i64 0, .slice none 0 0, .slice none 0 0, .slice none 0 0, .slice none 0 0, .slice none 0 0, .int .i32 0, .slice none 0 0, .slice none 0 0] 29) = wa := ⟨_, rfl⟩
  have hza : wa.heap.size = w.heap.size + 1 := by rw [← hwa]; simp
  obtain ⟨w1, hw1⟩ : ∃ w1, wa.alloc (.cells ((zF 22).row nilS nilS nilS nilS nilS nilS nilS nilS nilS).toArray 29) = w1 := ⟨_, rfl⟩
  have H0 := HSt.start h hC.lt (t := 22) rfl hwa hw1
  have hC1 : Blk w1 C 98 (cRow pr mr) := by
    have h1 := newB hwa
    have h2 := newB hw1
    exact hC.below (h1.trans (h2.mono h1.size)) hC.lt
  obtain ⟨G, hG⟩ : ∃ G, G = opWith (gSubs n) 22 k l p := ⟨_, rfl⟩
  rw [← hG]
  have HG0 : Hid (G = ((gSubs n 22 ⟨0, 0, 0⟩).map fun r => ((.mk (zF 22) r.1, k) : OpC × Cnt)) l p) := hG.trans (by unfold opWith; rw [if_neg (by decide), if_neg (by decide), if_pos rfl])
  have HST : Hid (St2 w base R C c A l 22 (cRow pr mr) G p (fun _ => cRow pr mr) 0 w1) := .inl ⟨rfl, H0, hC1⟩
  have HSB := Lib.hid HS
  have HK : Hid (∀ W, Calls Tryz.prog 12 #[.int .i32 22] W fun e w' => e = .returned (.int .i64 1) ∧ w' = W) := fun W => refKind_any 22 W
  have HFI : Hid (∀ W, Calls Tryz.prog 54 #[.int .i32 22] W fun e w' => e = .returned (.string ⟨#[115]⟩) ∧ w' = W) := fun W => fields_any 22 W
  have HCR := Lib.hid hCR
  have HBC := Lib.hid hbC
  have HCL := Lib.hid hC.lt
  have HRL := Lib.hid h.lt
  clear H0 hC1 hG h hC HS hCR hbC
  obtain ⟨s3, hs3⟩ : ∃ s3 : ByteArray, s3 = ⟨#[115]⟩ := ⟨_, rfl⟩
  have hsz : s3.size = 1 := by rw [hs3]; rfl
  have HIX : Hid (∀ W, (Instr.index 9 (.string s3) (.int .i64 0)).run Tryz.prog W = .ok (.int .u8 115) W) := fun W => by
    rw [run_index_string W _ s3 .i64 0 Tryz.underlying9, dif_pos ⟨by omega, by omega⟩]
    subst hs3
    rfl
  rw [← hs3] at HFI
  clear hs3
  go_enter Tryz.func62, Tryz.ntmps62
  go_wp2_with (first
    | (with_reducible refine wpAt 9 ?_
       refine wpList_newrow rfl rfl 29 rfl 9 rfl (.tmp 16) rfl rfl ((zF 22).row nilS nilS nilS nilS nilS nilS nilS nilS nilS).toArray (fun _ => rfl) (show 9 < 153 by decide) zer_op isz_29 (row_one _ _ _ _ _ _ _ _ _ _) ?_
       rw [hw1])
    | (go_at_call 12
       refine (HK.out _).mono ?_
       rintro e w2 ⟨rfl, he⟩
       obtain rfl := he.symm)
    | (go_at_call 54
       refine (HFI.out _).mono ?_
       rintro e w2 ⟨rfl, he⟩
       obtain rfl := he.symm))
  clear HK HFI
  go_loopw [12] (fun v12 wr => ∃ k : Nat, v12 = .int .i64 (k : Int) ∧ k ≤ 1 ∧ Hid (St2 w base R C c A l 22 (cRow pr mr) G p (fun _ => cRow pr mr) k wr)) (fun v12 _ => 1 - (intOf v12).toNat)
  case atStart => exact ⟨0, rfl, by omega, HST.out⟩
  case round =>
    clear HST
    obtain ⟨kk, rfl, hkk, HS⟩ := hrel
    rcases HS.out with ⟨rfl, hst, hcb⟩ | ⟨rfl, s, Q, k', q, hst, hsl, hat, hcb, hg⟩ | ⟨rfl, q, er, hdd, hg⟩
    rotate_left
    · -- read
      rw [show ((1 : Nat) : Int) = 1 from rfl]
      obtain ⟨c0, c1, c2, f1, f2⟩ := hst.rdr.cells
      obtain ⟨cs, hcs⟩ : ∃ cs, cs = ((zF 22).row nilS nilS nilS nilS nilS nilS nilS nilS s).toArray := ⟨_, rfl⟩
      have HB : Hid (Blk wr (w.heap.size + 1) 29 cs) := by rw [hcs]; exact hst.blk
      have HI : Hid ((Tryz.prog.info? 29).map (·.size) = some cs.size) := by unfold Hid; rw [hcs]; exact isz_29
      have HO : Hid (cs.all (·.oneCell') = true) := by unfold Hid; rw [hcs]; exact row_one _ _ _ _ _ _ _ _ _ _
      have HZZ : Hid (19 = cs.size) := by unfold Hid; rw [hcs]; rfl
      have HRES := Lib.hid hst.res
      have HN := Lib.hid hst
      have HCS := Lib.hid hcs
      have HSL := Lib.hid hsl
      have HAT := Lib.hid hat
      have HCB := Lib.hid hcb
      have HG := Lib.hid hg
      clear hst hsl hat hcb hg HS hcs
      go_wp2_with (first
          | (with_reducible refine wpAt 152 ?_
             refine wpList_load_row rfl 29 (.tmp 9) rfl (w.heap.size + 1) rfl 29 _ _ _ HB.out Tryz.underlying29 rfl HI.out ?_)
          | ((with_reducible show wpList _ _ _ (Oper.mk none (.store _ (.tmp 8) _) _ _ _ _ :: _) _ _)
             refine wpList_store_row rfl 29 (.tmp 8) (.tmp 152) rfl w.heap.size cs rfl rfl 29 _ HRES.out HI.out HZZ.out HO.out ?_
             have hbz := cells_setRow (cs := cs) HRES.out
             have hkz : Kp [w.heap.size] wr (wr.setRow w.heap.size cs) := Kp.setRow _ _
             have HFIN := Lib.hid (HN.out.fin cs)
             generalize hww : World.setRow _ _ _ = wz at hbz hkz HFIN ⊢
             have HBZ := Lib.hid hbz
             have HKZ := Lib.hid hkz
             clear hww hbz hkz))
      refine bodyPost_ret (results_cell_row rfl _ _ w.heap.size 29 _ _ _ rfl HBZ.out Tryz.underlying29 rfl HI.out) rfl ?_
      rw [HG.out]
      obtain ⟨hf1, hf2, hf3⟩ := HFIN.out
      have hcb2 := HCB.out.kp HKZ.out (by have := HCL.out; simp; omega)
      exact ⟨⟨_, rfl, ⟨_, by rw [HCS.out], .mk (zF 22) nilS nilS nilS nilS nilS nilS nilS nilS s Q HN.out.ok hf3.d hf3.a hf3.k0 hf3.k1 hf3.k2 hf3.k3 hf3.k4 hf3.i ((HSL.out.kp HKZ.out (by simp)).lo (by omega)) (fun z hz => ((HAT.out z hz).kp' HKZ.out (by simp)).lo' (by omega))⟩, hcb2⟩, hf1, hf2⟩
    · -- it has failed
      rw [show ((1 : Nat) : Int) = 1 from rfl]
      obtain ⟨c0, c1, c2, f1, f2⟩ := hdd.rdr.cells
      have hne := hdd.ne
      have hnb : (er == 0) = false := by simpa using hne
      obtain ⟨cs, hb, hz, ho⟩ := hdd.row
      have HB := Lib.hid hb
      have HZ : Hid (19 = cs.size) := hz.symm
      have HI : Hid ((Tryz.prog.info? 29).map (·.size) = some cs.size) := by unfold Hid; rw [hz]; exact isz_29
      have HO := Lib.hid ho
      have HRES := Lib.hid hdd.res
      have HD := Lib.hid hdd
      have HG := Lib.hid hg
      have HZ19 := Lib.hid hz
      clear hdd hne hb hz ho hg HS
      go_wp2_with (first
          | (with_reducible refine wpAt 152 ?_
             refine wpList_load_row rfl 29 (.tmp 9) rfl (w.heap.size + 1) rfl 29 _ _ _ HB.out Tryz.underlying29 rfl HI.out ?_)
          | ((with_reducible show wpList _ _ _ (Oper.mk none (.store _ (.tmp 8) _) _ _ _ _ :: _) _ _)
             refine wpList_store_row rfl 29 (.tmp 8) (.tmp 152) rfl w.heap.size cs rfl rfl 29 _ HRES.out HI.out HZ.out HO.out ?_
             have hbz := cells_setRow (cs := cs) HRES.out
             have HFIN := Lib.hid (HD.out.fin cs)
             generalize hww : World.setRow _ _ _ = wz at hbz HFIN ⊢
             have HBZ := Lib.hid hbz
             clear hww hbz))
      refine bodyPost_ret (results_cell_row rfl _ _ w.heap.size 29 _ _ _ rfl HBZ.out Tryz.underlying29 rfl HI.out) rfl ?_
      rw [HG.out]
      exact ⟨⟨cs.toList, by simp, by rw [Array.length_toList]; exact HZ19.out, by simpa using HO.out⟩, HD.out.ne, HFIN.out.1, HFIN.out.2⟩
    · -- the parts
      rw [show ((0 : Nat) : Int) = 0 from rfl]
      obtain ⟨c0, c1, c2, f1, f2⟩ := hst.rdr.cells
      have HN := Lib.hid hst
      have HCB := Lib.hid hcb
      have hx := HIX.out wr
      have HZ : Hid (w.heap.size + 2 ≤ wr.heap.size) := hst.size
      clear hst hcb HS
      obtain ⟨wb, hwb⟩ : ∃ wb, wr.alloc (.cells #[.int .i64 0, .int .i64 1] 98) = wb := ⟨_, rfl⟩
      have HBB := Lib.hid (newB hwb)
      have hnb : Blk wb wr.heap.size 98 (cRow 0 1) := newK hwb
      have hsub := HSB.out base R wr.heap.size c p A l 22 inn 1 ⟨0, 0, 0⟩ wb (HN.out.rdr.later HBB.out) hnb (by have := HN.out.old; have := HZ.out; omega) HN.out.rdr.low (by decide) (by decide) (by decide) (by decide) (.inl rfl) hp
      have hwbz : wb.heap.size = wr.heap.size + 1 := by rw [← hwb]; simp
      have HWBZ := Lib.hid hwbz
      clear hnb hwbz
      rcases h1 : gSubs n 22 ⟨0, 0, 0⟩ l p with ⟨⟨xs, k'⟩, q⟩ | ⟨er, q⟩
      rotate_left
      · have HGE : Hid (G = .inr (er, q)) := HG0.out.trans (by unfold Rg.map; rw [h1])
        rw [h1] at hsub
        have HSUB := Lib.hid hsub
        clear hsub h1 hx
        have hx := HIX.out wr
        go_wp2_with (go_at_call 97; refine HSUB.out.mono ?_; rintro e w2 ⟨⟨A', n', c', rfl⟩, hne, hkp, hR⟩; have HKP := Lib.hid ((Kp.of_below (X := []) HBB.out).to hkp (Z := [R, C]) (fun _ h => by cases h) (fun y hy hl => by simp at hy; rcases hy with rfl | rfl; simp; omega)); have hb2 := HN.out.blk.kp HKP.out (by have := HN.out.old; have := HN.out.oldC; simp; omega); have kc := hb2.cell; have kf := hb2.frozen; have hr2 := HN.out.res.kp HKP.out (by have := HN.out.old; have := HN.out.oldC; simp; omega); have HB2 := Lib.hid hb2; have HR2 := Lib.hid hr2; have HRR := Lib.hid hR; have HNE := Lib.hid hne; clear hkp hR hne hb2 hr2; refine Hid.out ?_)
        refine Lib.hid ?_
        clear c0 c1 c2 f1 f2
        obtain ⟨w3, hw3⟩ : ∃ w3, w2.setCell ⟨w.heap.size + 1, 18, none⟩ (.slice A' n' c') = w3 := ⟨_, rfl⟩
        have HDD3 : Hid (Dead w base R C c A l q er w3) := by
          unfold Hid
          rw [← hw3]
          have ho := HN.out.old
          have hoC := HN.out.oldC
          have hlw := HRR.out.old
          exact ⟨HRR.out.set (by omega) (by omega) 18 _, HNE.out, HR2.out.far (p := ⟨w.heap.size + 1, 18, none⟩) (by simp) _, (HN.out.kp.trans HKP.out).set_ (by omega) 18 _, ho, hoC, _, HB2.out.set_ 18 _, by simp [OpF.row], set_one (row_one _ _ _ _ _ _ _ _ _ _) 18 rfl⟩
        go_wp2
        go_roundw
        case rel => exact ⟨1, rfl, by omega, .inr (.inr ⟨rfl, _, _, HDD3.out, HGE.out⟩)⟩
        case measure => simp [intOf]
      have HGE : Hid (G = .inl ((.mk (zF 22) xs, k), q)) := HG0.out.trans (by unfold Rg.map; rw [h1])
      rw [h1] at hsub
      have HSUB := Lib.hid hsub
      clear hsub h1 hx
      have hx := HIX.out wr
      go_wp2_with (go_at_call 97; refine HSUB.out.mono ?_; rintro e w2 ⟨⟨A', c', Q, rfl, hxs, hql, hfl, hcb⟩, hkp, hR⟩; have HKP := Lib.hid ((Kp.of_below (X := []) HBB.out).to hkp (Z := [R, C]) (fun _ h => by cases h) (fun y hy hl => by simp at hy; rcases hy with rfl | rfl; simp; omega)); have HN2 := Lib.hid (HN.out.read HKP.out hR); have kc := HN2.out.blk.cell; have kf := HN2.out.blk.frozen; have HFL := Lib.hid (hfl.at_ (by unfold reachBytes; omega)); have HCB2 := Lib.hid ((HCB.out.below HBB.out HCB.out.lt).kp hkp (by have := HCR.out; have := HCL.out; have := HZ.out; simp; omega)); have HXS := Lib.hid hxs; clear hkp hR hfl hcb hxs; refine Hid.out ?_)
      refine Lib.hid ?_
      clear c0 c1 c2 f1 f2
      obtain ⟨w3, hw3⟩ : ∃ w3, w2.setCell ⟨w.heap.size + 1, 18, none⟩ (.slice A' Q.length c') = w3 := ⟨_, rfl⟩
      have HS3 : Hid (HSt w base R C c A l q (zF 22) nilS nilS nilS nilS nilS nilS nilS nilS ⟨A', Q.length, c'⟩ w3) := by unfold Hid; rw [← hw3]; exact HN2.out.set_s ⟨A', Q.length, c'⟩
      have hk3 : Kp [w.heap.size + 1] w2 w3 := by rw [← hw3]; exact Kp.setCell ⟨w.heap.size + 1, 18, none⟩ _
      have HSL : Hid (SlAt w3 (some (w.heap.size + 2)) 29 19 296 ⟨A', Q.length, c'⟩ Q.length (Q.flatMap Prod.snd)) := (HFL.out.1.kp hk3 (by have := HZ.out; simp; have := HWBZ.out; omega)).lo (by have := HZ.out; have := HWBZ.out; omega)
      have HAT : Hid (∀ z ∈ Q, At w3 (some (w.heap.size + 2)) z.1 z.2) := fun z hz => ((HFL.out.2 z hz).kp' hk3 (by have := HZ.out; simp; have := HWBZ.out; omega)).lo' (by have := HZ.out; have := HWBZ.out; omega)
      have HC3 : Hid (Blk w3 C 98 (cRow pr mr)) := HCB2.out.kp hk3 (by have := HCL.out; simp; omega)
      clear hk3
      go_wp2
      go_roundw
      case rel => exact ⟨1, rfl, by omega, .inr (.inl ⟨rfl, _, Q, k, q, HS3.out, HSL.out, HAT.out, HC3.out, by rw [HXS.out]; exact HGE.out⟩)⟩
      case measure => simp [intOf]
end Go.Proofs.YtpjjnmdfgcfnmaaGreatDoor
