/- The document's ops.Get: the types without lists of texts, without operations. (printed by gen_h3.py) -/
import Derived.Test.YtpjjnmdfgcfnmaaGreatDoorOh2
import Derived.Test.YtpjjnmdfgcfnmaaGreatDoorOcb
import Derived.Test.YtpjjnmdfgcfnmaaGreatDoorOq31
set_option linter.unusedVariables false
set_option linter.unusedSimpArgs false
namespace Go.Proofs.YtpjjnmdfgcfnmaaGreatDoor
open Go.RowKit

/-- how a reading by the document ends, whatever is told when it fails -/
def RefV {α : Type} (base R : Nat) (A : Option Addr) (c : Nat) (l : List UInt8) (val : α → Value → World → Prop) (dvp : Value → Prop) (r : (α × Nat) ⊕ (Int × Nat)) (w : World) (e : Ending) (w' : World) : Prop :=
  match r with
  | .inl (x, q) => (∃ v, e = .returned v ∧ val x v w') ∧ Kp [R] w w' ∧ RR w' base R A c l q 0
  | .inr (er, q) => (∃ v, e = .returned v ∧ dvp v) ∧ er ≠ 0 ∧ Kp [R] w w' ∧ RR w' base R A c l q er
theorem refv_of {α : Type} {base R : Nat} {A : Option Addr} {c : Nat} {l : List UInt8} {val : α → Value → World → Prop} {dv : Value} {r : (α × Nat) ⊕ (Int × Nat)} {w : World} {F : FuncId} {args : Array Value} (h : Calls Tryz.prog F args w (RefE base R A c l val dv r w)) : Calls Tryz.prog F args w (RefV base R A c l val (fun v => v = dv) r w) :=
  h.mono fun e w' he => by
    rcases r with ⟨x, q⟩ | ⟨er, q⟩
    · exact he
    · exact ⟨⟨dv, he.1, rfl⟩, he.2⟩
theorem refv_acl (base R : Nat) (A : Option Addr) (c : Nat) (l : List UInt8) (q : Nat) (w : World) (h : RR w base R A c l q 0) : Calls Tryz.prog 92 #[.pointer (some ⟨R, 0, none⟩)] w (RefV base R A c l (vAcls w.heap.size) (fun v => ∃ A n c, v = .slice A n c) (gGet 16 12 gAcl l q) w) :=
  (sGetAcl base R A c l (q, 0) w h).mono fun e w' ⟨r, hr, ⟨L, v, h1, h2, h3⟩, h4, h5⟩ => by
    rcases hg : gGet 16 12 gAcl l q with ⟨x, q1⟩ | ⟨er, q1⟩
    · rw [stepS_yes [] hg] at hr
      subst hr
      obtain rfl := h3 rfl
      exact ⟨⟨v, h1, h2⟩, h4, h5⟩
    · rw [stepS_no [] hg] at hr
      subst hr
      obtain ⟨A', c', h6, _⟩ := h2
      exact ⟨⟨v, h1, _, _, _, h6⟩, (sure_aclO.get _ _) _ _ _ _ hg, h4, h5⟩
theorem refv_ids (base R : Nat) (A : Option Addr) (c : Nat) (l : List UInt8) (q : Nat) (w : World) (h : RR w base R A c l q 0) : Calls Tryz.prog 96 #[.pointer (some ⟨R, 0, none⟩)] w (RefV base R A c l (vIds w.heap.size) (fun v => ∃ A n c, v = .slice A n c) (gGet 16 8 gIdO l q) w) :=
  (sGetIds base R A c l (q, 0) w h).mono fun e w' ⟨r, hr, ⟨L, v, h1, h2, h3⟩, h4, h5⟩ => by
    rcases hg : gGet 16 8 gIdO l q with ⟨x, q1⟩ | ⟨er, q1⟩
    · rw [stepS_yes [] hg] at hr
      subst hr
      obtain rfl := h3 rfl
      exact ⟨⟨v, h1, h2⟩, h4, h5⟩
    · rw [stepS_no [] hg] at hr
      subst hr
      obtain ⟨A', c', h6, _⟩ := h2
      exact ⟨⟨v, h1, _, _, _, h6⟩, (sure_idO.get _ _) _ _ _ _ hg, h4, h5⟩
/-! the fields by their letters -/
def gC (c : UInt8) (f : OpF) : Rg OpF :=
  if c = 112 then (gText 4096).bind fun x => Rg.ret { f with p := bs x }
  else if c = 100 then (gBuf 1048575).bind fun x => Rg.ret { f with l := x }
  else if c = 97 then (gGet 16 12 gAcl).bind fun x => Rg.ret { f with L := x }
  else if c = 102 then gInt.bind fun x => Rg.ret { f with fl := x }
  else if c = 118 then gInt.bind fun x => Rg.ret { f with ve := x }
  else if c = 119 then gBool.bind fun x => Rg.ret { f with wa := x }
  else if c = 108 then gLong.bind fun x => Rg.ret { f with tl := x }
  else if c = 122 then gLong.bind fun x => Rg.ret { f with zx := x }
  else if c = 116 then gInt.bind fun x => Rg.ret (⟨f.t, f.p, f.l, f.L, f.fl, f.ve, f.wa, f.ct, f.by_, f.tl, f.zx, f.K0, f.K1, f.K2, f.K3, f.K4, x, f.I⟩ : OpF)
  else if c = 105 then (gGet 16 8 gIdO).bind fun x => Rg.ret { f with I := x }
  else if c = 99 then gLong.bind fun x => gLong.bind fun y => Rg.ret { { f with ct := x } with by_ := y }
  else Rg.ret f
def gL : List UInt8 → OpF → Rg OpF
  | [], f => Rg.ret f
  | c :: r, f => (gC c f).bind (gL r)
theorem bindA {α β γ : Type} (a : Rg α) (g : α → Rg β) (h : β → Rg γ) : (a.bind g).bind h = a.bind fun x => (g x).bind h := by
  funext l p
  unfold Rg.bind
  rcases a l p with ⟨x, q⟩ | e <;> rfl
theorem retB {α β : Type} (x : α) (h : α → Rg β) : (Rg.ret x).bind h = h x := rfl
def plainT : List Int := [1, 15, 19, 21, 2, 13, 5, 7, 120, 121, 6, 9, 103, 104, -10, 3, 4, 8, 12, 106, 18, -11, 11, 107]
set_option maxRecDepth 100000 in
theorem gL_fld : ∀ t ∈ plainT, gL (fieldsN t) (zF t) = gFld t := by
  intro t ht
  simp only [plainT, List.mem_cons, List.not_mem_nil, or_false] at ht
  rcases ht with rfl | rfl | rfl | rfl | rfl | rfl | rfl | rfl | rfl | rfl | rfl | rfl | rfl | rfl | rfl | rfl | rfl | rfl | rfl | rfl | rfl | rfl | rfl | rfl
  all_goals
    (rw [show fieldsN _ = _ from rfl]
     simp only [fieldsN, fieldsL, List.find?, Option.map, Option.getD, gL]
     simp [gL, gC, bindA, retB, gFld])
  all_goals rfl
theorem letters_in : ∀ t ∈ plainT, ∀ c ∈ fieldsN t, c ∈ ([112, 100, 97, 102, 118, 119, 108, 122, 116, 105, 99] : List UInt8) := by decide +kernel
/-! where the reading stands -/
section
variable {w0 w w2 : World} {base R C c q q1 : Nat} {A : Option Addr} {l : List UInt8} {f : OpF} {d a k0 k1 k2 k3 k4 i s : Sl} {er : Int}
theorem Kp.two {X : World} (h : Kp [R] w X) : Kp [R, C] w X := h.mono (fun x hx _ => by simp at hx; simp [hx])
structure Dead (w0 : World) (base R C c : Nat) (A : Option Addr) (l : List UInt8) (q : Nat) (er : Int) (w : World) : Prop where
  rdr : RR w base R A c l q er
  ne : er ≠ 0
  res : Blk w w0.heap.size 29 #[.int .i32 0, .string ⟨#[]⟩, .slice none 0 0, .slice none 0 0, .int .i32 0, .int .i32 0, .bool false, .int .i64 0, .int .i64 0, .int .i64 0, .int .i64 0, .slice none 0 0, .slice none 0 0, .slice none 0 0, .slice none 0 0, .slice none 0 0, .int .i32 0, .slice none 0 0, .slice none 0 0]
  kp : Kp [R, C] w0 w
  old : R < w0.heap.size
  oldC : C < w0.heap.size
  row : ∃ cs : Array Value, Blk w (w0.heap.size + 1) 29 cs ∧ cs.size = 19 ∧ cs.all (·.oneCell') = true
theorem set_one {cs : Array Value} (h : cs.all (·.oneCell') = true) (j : Nat) {v : Value} (hv : v.oneCell' = true) : (cs.setIfInBounds j v).all (·.oneCell') = true := by
  rw [Array.all_eq_true] at h ⊢
  intro k hk
  rw [Array.getElem_setIfInBounds]
  split
  · exact hv
  · exact h k (by simpa using hk)
theorem HSt.dead (h : HSt w0 base R C c A l q f d a k0 k1 k2 k3 k4 i s w) (hk : Kp [R] w w2) (hR : RR w2 base R A c l q1 er) (he : er ≠ 0) (j : Nat) {v : Value} (hv : v.oneCell' = true) : Dead w0 base R C c A l q1 er (w2.setCell ⟨w0.heap.size + 1, j, none⟩ v) := by
  have ho := h.old
  have hoC := h.oldC
  have hlw := hR.old
  have hb := h.blk.kp hk (by simp; omega)
  have hr := h.res.kp hk (by simp; omega)
  exact ⟨hR.set (by omega) (by omega) j v, he, hr.far (p := ⟨w0.heap.size + 1, j, none⟩) (by simp) v, (h.kp.trans hk.two).set_ (by omega) j v, ho, hoC, _, hb.set_ j v, by simp [OpF.row], set_one (row_one _ _ _ _ _ _ _ _ _ _) j hv⟩
theorem Dead.again (h : Dead w0 base R C c A l q er w) (hk : Kp [R] w w2) (hR : RR w2 base R A c l q er) (j : Nat) {v : Value} (hv : v.oneCell' = true) : Dead w0 base R C c A l q er (w2.setCell ⟨w0.heap.size + 1, j, none⟩ v) := by
  have ho := h.old
  have hoC := h.oldC
  have hlw := hR.old
  obtain ⟨cs, hb, hz, hone⟩ := h.row
  have hb := hb.kp hk (by simp; omega)
  have hr := h.res.kp hk (by simp; omega)
  exact ⟨hR.set (by omega) (by omega) j v, h.ne, hr.far (p := ⟨w0.heap.size + 1, j, none⟩) (by simp) v, (h.kp.trans hk.two).set_ (by omega) j v, ho, hoC, _, hb.set_ j v, by simp [hz], set_one hone j hv⟩
theorem Dead.fin (h : Dead w0 base R C c A l q er w) (cs : Array Value) : Kp [R, C] w0 (w.setRow w0.heap.size cs) ∧ RR (w.setRow w0.heap.size cs) base R A c l q er := by
  have ho := h.old
  have hoC := h.oldC
  have hlw := h.rdr.old
  have hk : Kp [w0.heap.size] w (w.setRow w0.heap.size cs) := Kp.setRow _ _
  exact ⟨h.kp.to hk (fun _ hx _ => hx) (fun y hy hl => by simp at hy; omega), h.rdr.kp hk (by simp; omega) (by simp; omega)⟩
end
/-- how Get ends -/
def RGot {α : Type} (base R C c : Nat) (A : Option Addr) (l : List UInt8) (val : α → Value → World → Prop) (r : (α × Nat) ⊕ (Int × Nat)) (w : World) (e : Ending) (w' : World) : Prop :=
  match r with
  | .inl (x, q) => (∃ v, e = .returned v ∧ val x v w') ∧ Kp [R, C] w w' ∧ RR w' base R A c l q 0
  | .inr (er, q) => (∃ cs : List Value, e = .returned (.agg cs.toArray) ∧ cs.length = 19 ∧ cs.toArray.all (·.oneCell') = true) ∧ er ≠ 0 ∧ Kp [R, C] w w' ∧ RR w' base R A c l q er
def St (w0 : World) (base R C c : Nat) (A : Option Addr) (l : List UInt8) (F : List UInt8) (G : (OpF × Nat) ⊕ (Int × Nat)) (K : Array Value) (k : Nat) (w : World) : Prop :=
  (∃ (f : OpF) (d a k0 k1 k2 k3 k4 i : Sl) (q : Nat), HSt w0 base R C c A l q f d a k0 k1 k2 k3 k4 i nilS w ∧ Blk w C 98 K ∧ G = gL (F.drop k) f l q) ∨ ∃ (q : Nat) (er : Int), Dead w0 base R C c A l q er w ∧ G = .inr (er, q)
def vFld (base C : Nat) (K : Array Value) (f : OpF) (v : Value) (w : World) : Prop := ∃ cs : List Value, v = .agg cs.toArray ∧ At w (some base) (.mk f []) cs ∧ Blk w C 98 K
set_option maxRecDepth 100000 in
set_option maxHeartbeats 40000000 in
theorem rget_flds (t : Int) (htt : t ∈ plainT) (base R C c p : Nat) (A : Option Addr) (l : List UInt8) (inn : Int) (K : Array Value) (w : World) (h : RR w base R A c l p 0) (hC : Blk w C 98 K) (hRC : C ≠ R) :
    Calls Tryz.prog 62 #[.pointer (some ⟨R, 0, none⟩), .int .i32 t, .int .i64 inn, .pointer (some ⟨C, 0, none⟩)] w (RGot base R C c A l (vFld w.heap.size C K) (gFld t l p) w) := by
  rw [← gL_fld t htt]
  obtain ⟨F, hF⟩ : ∃ F, F = fieldsN t := ⟨_, rfl⟩
  have HLET : Hid (∀ c ∈ F, c ∈ ([112, 100, 97, 102, 118, 119, 108, 122, 116, 105, 99] : List UInt8)) := by rw [hF]; exact letters_in t htt
  obtain ⟨wa, hwa⟩ : ∃ wa, w.alloc (.cells #[.int .i32 0, .string ⟨#[]⟩, .slice none 0 0, .slice none 0 0, .int .i32 0, .int .i32 0, .bool false, .int .i64 0, .int .i64 0, .int .i64 0, .int .i64 0, .slice none 0 0, .slice none 0 0, .slice none 0 0, .slice none 0 0, .slice none 0 0, .int .i32 0, .slice none 0 0, .slice none 0 0] 29) = wa := ⟨_, rfl⟩
  have hza : wa.heap.size = w.heap.size + 1 := by rw [← hwa]; simp
  obtain ⟨w1, hw1⟩ : ∃ w1, wa.alloc (.cells ((zF t).row nilS nilS nilS nilS nilS nilS nilS nilS nilS).toArray 29) = w1 := ⟨_, rfl⟩
  have hwf : (Lit.int .i32 t).wf = true := by
    have : ∀ t ∈ plainT, (Lit.int .i32 t).wf = true := by decide
    exact this t htt
  have H0 := HSt.start h hC.lt (t := t) hwf hwa hw1
  have hC1 : Blk w1 C 98 K := by
    have h1 := newB hwa
    have h2 := newB hw1
    exact hC.below (h1.trans (h2.mono h1.size)) hC.lt
  obtain ⟨G, hG⟩ : ∃ G, G = gL F (zF t) l p := ⟨_, rfl⟩
  rw [← hF, ← hG]
  have HST : Hid (St w base R C c A l F G K 0 w1) := .inl ⟨_, _, _, _, _, _, _, _, _, _, H0, hC1, hG⟩
  obtain ⟨kn, hkn⟩ : ∃ k, k = kindN t := ⟨_, rfl⟩
  have hkk : ∀ t ∈ plainT, (kindN t == 0) = false ∧ (kindN t == 5) = false := by decide +kernel
  have hk0 : (kn == 0) = false := by rw [hkn]; exact (hkk t htt).1
  have hk5 : (kn == 5) = false := by rw [hkn]; exact (hkk t htt).2
  have HK : Hid (∀ W, Calls Tryz.prog 12 #[.int .i32 t] W fun e w' => e = .returned (.int .i64 kn) ∧ w' = W) := fun W => by rw [hkn]; exact refKind_any t W
  obtain ⟨s3, hs3⟩ : ∃ s3 : ByteArray, s3 = ⟨F.toArray⟩ := ⟨_, rfl⟩
  have HFI : Hid (∀ W, Calls Tryz.prog 54 #[.int .i32 t] W fun e w' => e = .returned (.string s3) ∧ w' = W) := fun W => by rw [hs3, hF]; exact fields_any t W
  have hsz : s3.size = F.length := by rw [hs3]; simp [ByteArray.size]
  have HIX : Hid (∀ W (k : Nat) (hk : k < F.length), (Instr.index 9 (.string s3) (.int .i64 (k : Int))).run Tryz.prog W = .ok (.int .u8 ((F[k]).toNat : Int)) W) := fun W k hk => by
    have hks : k < s3.size := by rw [hsz]; exact hk
    rw [run_index_string W _ s3 .i64 k Tryz.underlying9, dif_pos ⟨by omega, by omega⟩]
    subst hs3
    rfl
  have hFl : F.length ≤ 1000 := by
    have : ∀ t ∈ plainT, (fieldsN t).length ≤ 1000 := by decide +kernel
    rw [hF]; exact this t htt
  have HRC := Lib.hid hRC
  clear hkk hkn hwf htt H0 hC1 hG h hC hF hs3 hRC
  go_enter Tryz.func62, Tryz.ntmps62
  go_wp2_with (first
    | (with_reducible refine wpAt 9 ?_
       refine wpList_newrow rfl rfl 29 rfl 9 rfl (.tmp 16) rfl rfl ((zF t).row nilS nilS nilS nilS nilS nilS nilS nilS nilS).toArray (fun _ => rfl) (show 9 < 153 by decide) zer_op isz_29 (row_one _ _ _ _ _ _ _ _ _ _) ?_
       rw [hw1])
    | (go_at_call 12
       refine (HK.out _).mono ?_
       rintro e w2 ⟨rfl, he⟩
       obtain rfl := he.symm)
    | (go_at_call 54
       refine (HFI.out _).mono ?_
       rintro e w2 ⟨rfl, he⟩
       obtain rfl := he.symm))
  clear hk0 hk5 HK HFI
  go_loopw [12] (fun v12 wr => ∃ k : Nat, k ≤ F.length ∧ v12 = .int .i64 (k : Int) ∧ Hid (St w base R C c A l F G K k wr)) (fun v12 _ => F.length - (intOf v12).toNat)
  case atStart => exact ⟨0, by omega, rfl, HST.out⟩
  case round =>
    clear HST
    obtain ⟨k, hk, rfl, HS⟩ := hrel
    rcases HS.out with ⟨f, d, a, k0, k1, k2, k3, k4, i, q, hst, hcb, hg⟩ | ⟨q, er, hdd, hg⟩
    rotate_left
    · -- it has failed
      obtain ⟨c0, c1, c2, f1, f2⟩ := hdd.rdr.cells
      have hne := hdd.ne
      have hnb : (er == 0) = false := by simpa using hne
      obtain ⟨cs, hb, hz, ho⟩ := hdd.row
      have HB := Lib.hid hb
      have HZ : Hid (19 = cs.size) := hz.symm
      have HI : Hid ((Tryz.prog.info? 29).map (·.size) = some cs.size) := by unfold Hid; rw [hz]; exact isz_29
      have HO := Lib.hid ho
      have HRES := Lib.hid hdd.res
      have HD := Lib.hid hdd
      have HG := Lib.hid hg
      have HZ19 := Lib.hid hz
      clear hdd hne hb hz ho hg HS
      by_cases hlt : k < F.length
      all_goals
        go_wp2_with (first
          | (with_reducible refine wpAt 152 ?_
             refine wpList_load_row rfl 29 (.tmp 9) rfl (w.heap.size + 1) rfl 29 _ _ _ HB.out Tryz.underlying29 rfl HI.out ?_)
          | ((with_reducible show wpList _ _ _ (Oper.mk none (.store _ (.tmp 8) _) _ _ _ _ :: _) _ _)
             refine wpList_store_row rfl 29 (.tmp 8) (.tmp 152) rfl w.heap.size cs rfl rfl 29 _ HRES.out HI.out HZ.out HO.out ?_
             have hbz := cells_setRow (cs := cs) HRES.out
             have HFIN := Lib.hid (HD.out.fin cs)
             generalize hww : World.setRow _ _ _ = wz at hbz HFIN ⊢
             have HBZ := Lib.hid hbz
             clear hww hbz))
        refine bodyPost_ret (results_cell_row rfl _ _ w.heap.size 29 _ _ _ rfl HBZ.out Tryz.underlying29 rfl HI.out) rfl ?_
        rw [HG.out]
        exact ⟨⟨cs.toList, by simp, by rw [Array.length_toList]; exact HZ19.out, by simpa using HO.out⟩, HD.out.ne, HFIN.out.1, HFIN.out.2⟩
    · obtain ⟨c0, c1, c2, f1, f2⟩ := hst.rdr.cells
      have HN := Lib.hid hst
      have HCB := Lib.hid hcb
      have HZ : Hid (w.heap.size + 2 ≤ wr.heap.size) := hst.size
      by_cases hlt : k < F.length
      rotate_left
      · have hkl : k = F.length := by omega
        rw [List.drop_eq_nil_of_le (by omega), gL] at hg
        have HG : Hid (G = .inl (f, q)) := hg
        obtain ⟨cs, hcs⟩ : ∃ cs, cs = (f.row d a k0 k1 k2 k3 k4 i nilS).toArray := ⟨_, rfl⟩
        have HB : Hid (Blk wr (w.heap.size + 1) 29 cs) := by rw [hcs]; exact hst.blk
        have HI : Hid ((Tryz.prog.info? 29).map (·.size) = some cs.size) := by unfold Hid; rw [hcs]; exact isz_29
        have HO : Hid (cs.all (·.oneCell') = true) := by unfold Hid; rw [hcs]; exact row_one _ _ _ _ _ _ _ _ _ _
        have HZZ : Hid (19 = cs.size) := by unfold Hid; rw [hcs]; rfl
        have HRES := Lib.hid hst.res
        have HCS := Lib.hid hcs
        clear hst hcb hg HS hcs hkl
        go_wp2_with (first
          | (with_reducible refine wpAt 152 ?_
             refine wpList_load_row rfl 29 (.tmp 9) rfl (w.heap.size + 1) rfl 29 _ _ _ HB.out Tryz.underlying29 rfl HI.out ?_)
          | ((with_reducible show wpList _ _ _ (Oper.mk none (.store _ (.tmp 8) _) _ _ _ _ :: _) _ _)
             refine wpList_store_row rfl 29 (.tmp 8) (.tmp 152) rfl w.heap.size cs rfl rfl 29 _ HRES.out HI.out HZZ.out HO.out ?_
             have hbz := cells_setRow (cs := cs) HRES.out
             have hkz : Kp [w.heap.size] wr (wr.setRow w.heap.size cs) := Kp.setRow _ _
             have HFIN := Lib.hid (HN.out.fin cs)
             generalize hww : World.setRow _ _ _ = wz at hbz hkz HFIN ⊢
             have HBZ := Lib.hid hbz
             have HKZ := Lib.hid hkz
             clear hww hbz hkz))
        refine bodyPost_ret (results_cell_row rfl _ _ w.heap.size 29 _ _ _ rfl HBZ.out Tryz.underlying29 rfl HI.out) rfl ?_
        rw [HG.out]
        obtain ⟨hf1, hf2, hf3⟩ := HFIN.out
        exact ⟨⟨_, rfl, _, by rw [HCS.out], .mk f d a k0 k1 k2 k3 k4 i nilS [] HN.out.ok hf3.d hf3.a hf3.k0 hf3.k1 hf3.k2 hf3.k3 hf3.k4 hf3.i (SlAt.zero _ _ _ _ _) (fun _ h => nomatch h), HCB.out.kp HKZ.out (by have := HN.out.oldC; simp; omega)⟩, hf1, hf2⟩
      · have hx := HIX.out wr k hlt
        have hm := HLET.out _ (List.getElem_mem hlt)
        rw [List.drop_eq_getElem_cons hlt] at hg
        obtain ⟨cc, hc⟩ : ∃ cc, cc = F[k] := ⟨_, rfl⟩
        rw [← hc] at hx hm hg
        simp only [List.mem_cons, List.not_mem_nil, or_false] at hm
        clear hst hcb HS hc
        rcases hm with rfl | rfl | rfl | rfl | rfl | rfl | rfl | rfl | rfl | rfl | rfl

        · -- p
          have hg' : G = ((gText 4096).bind fun x => gL (F.drop (k + 1)) { f with p := bs x }) l q := by rw [hg, gL]; show (((gText 4096).bind fun x => Rg.ret { f with p := bs x }).bind _) l q = _; rw [bindA]; rfl
          have hx' : (Instr.index 9 (.string s3) (.int .i64 (k : Int))).run Tryz.prog wr = .ok (.int .u8 112) wr := hx
          have hcon : Calls Tryz.prog 90 #[.pointer (some ⟨R, 0, none⟩), .int .i64 4096] wr (RefV base R A c l vText (fun v => v = .string ⟨#[]⟩) ((gText 4096) l q) wr) := refv_of (dText base R A c l q wr 4096 HN.out.rdr HN.out.rdr.low)
          clear hg hx
          rcases h1 : (gText 4096) l q with ⟨x, q1⟩ | ⟨er, q1⟩
          · rw [h1] at hcon
            have HCON := Lib.hid hcon
            have HGN := Lib.hid (hg'.trans (gb_ev h1))
            have HX : Hid ((bs x).size ≤ reachBytes) := by have := gText_most h1; unfold Hid reachBytes; rw [bs_size]; omega
            clear hcon hg' h1
            go_wp2_with (go_at_call 90; refine HCON.out.mono ?_; rintro e w2 ⟨⟨v, rfl, hv⟩, hkp, hR⟩; have hsz2 := hkp.size; have hst := HN.out.read hkp.two hR; have kc := hst.blk.cell; have kf := hst.blk.frozen; have HN2 := Lib.hid hst; have HCB2 := Lib.hid (HCB.out.kp hkp (by simpa using HRC.out)); clear hkp hR hst; have HZ2 := Lib.hid hsz2; clear hsz2; refine Hid.out ?_)
            refine Lib.hid ?_
            clear c0 c1 c2 f1 f2
            obtain rfl := hv
            obtain ⟨w3, hw3⟩ : ∃ w3, w2.setCell ⟨w.heap.size + 1, 1, none⟩ (.string ⟨x.toArray⟩) = w3 := ⟨_, rfl⟩
            have HS3 : Hid (St w base R C c A l F G K (k + 1) w3) := by
              unfold Hid
              rw [← hw3]
              exact .inl ⟨_, _, _, _, _, _, _, _, _, _, HN2.out.set_p (x := bs x) HX.out, HCB2.out.far (p := ⟨w.heap.size + 1, 1, none⟩) (by have := HN.out.oldC; simp; omega) _, HGN.out⟩
            go_wp2
            go_roundw
            case rel => exact ⟨k + 1, by omega, by go_num, HS3.out⟩
            case measure => simp [intOf]; omega
          · rw [h1] at hcon
            have HCON := Lib.hid hcon
            have HGE := Lib.hid (hg'.trans (gb_no h1))
            clear hcon hg' h1
            go_wp2_with (go_at_call 90; refine HCON.out.mono ?_; rintro e w2 ⟨⟨v, rfl, hv⟩, hne, hkp, hR⟩; have hb2 := HN.out.blk.kp hkp (by have := HN.out.old; simp; omega); have kc := hb2.cell; have kf := hb2.frozen; obtain rfl := hv; have HDD := Lib.hid (HN.out.dead hkp hR hne 1 (v := .string ⟨#[]⟩) rfl); clear hkp hR hne hb2; refine Hid.out ?_)
            refine Lib.hid ?_
            clear c0 c1 c2 f1 f2
            obtain ⟨w3, hw3⟩ : ∃ w3, w2.setCell ⟨w.heap.size + 1, 1, none⟩ (.string ⟨#[]⟩) = w3 := ⟨_, rfl⟩
            have HS3 : Hid (St w base R C c A l F G K (k + 1) w3) := by
              unfold Hid
              rw [← hw3]
              exact .inr ⟨_, _, HDD.out, HGE.out⟩
            go_wp2
            go_roundw
            case rel => exact ⟨k + 1, by omega, by go_num, HS3.out⟩
            case measure => simp [intOf]; omega
        · -- d
          have hg' : G = ((gBuf 1048575).bind fun x => gL (F.drop (k + 1)) { f with l := x }) l q := by rw [hg, gL]; show (((gBuf 1048575).bind fun x => Rg.ret { f with l := x }).bind _) l q = _; rw [bindA]; rfl
          have hx' : (Instr.index 9 (.string s3) (.int .i64 (k : Int))).run Tryz.prog wr = .ok (.int .u8 100) wr := hx
          have hcon : Calls Tryz.prog 91 #[.pointer (some ⟨R, 0, none⟩), .int .i64 1048575, .bool false] wr (RefV base R A c l (vOwn wr.heap.size) (fun v => v = .slice none 0 0) ((gBuf 1048575) l q) wr) := refv_of (dBuf base R A c l q wr 1048575 HN.out.rdr HN.out.rdr.low)
          clear hg hx
          rcases h1 : (gBuf 1048575) l q with ⟨x, q1⟩ | ⟨er, q1⟩
          · rw [h1] at hcon
            have HCON := Lib.hid hcon
            have HGN := Lib.hid (hg'.trans (gb_ev h1))
            have HX : Hid (x.length * 1 ≤ reachBytes) := by have := gBuf_most h1; unfold Hid reachBytes; omega
            clear hcon hg' h1
            go_wp2_with (go_at_call 91; refine HCON.out.mono ?_; rintro e w2 ⟨⟨v, rfl, hv⟩, hkp, hR⟩; have hsz2 := hkp.size; have hst := HN.out.read hkp.two hR; have kc := hst.blk.cell; have kf := hst.blk.frozen; have HN2 := Lib.hid hst; have HCB2 := Lib.hid (HCB.out.kp hkp (by simpa using HRC.out)); clear hkp hR hst; have HZ2 := Lib.hid hsz2; clear hsz2; refine Hid.out ?_)
            refine Lib.hid ?_
            clear c0 c1 c2 f1 f2
            obtain ⟨A', c', rfl, ho⟩ := hv
            obtain ⟨w3, hw3⟩ : ∃ w3, w2.setCell ⟨w.heap.size + 1, 2, none⟩ (.slice A' x.length c') = w3 := ⟨_, rfl⟩
            have HS3 : Hid (St w base R C c A l F G K (k + 1) w3) := by
              unfold Hid
              rw [← hw3]
              exact .inl ⟨_, _, _, _, _, _, _, _, _, _, HN2.out.set_d (own_lowO ho HZ.out) HX.out, HCB2.out.far (p := ⟨w.heap.size + 1, 2, none⟩) (by have := HN.out.oldC; simp; omega) _, HGN.out⟩
            go_wp2
            go_roundw
            case rel => exact ⟨k + 1, by omega, by go_num, HS3.out⟩
            case measure => simp [intOf]; omega
          · rw [h1] at hcon
            have HCON := Lib.hid hcon
            have HGE := Lib.hid (hg'.trans (gb_no h1))
            clear hcon hg' h1
            go_wp2_with (go_at_call 91; refine HCON.out.mono ?_; rintro e w2 ⟨⟨v, rfl, hv⟩, hne, hkp, hR⟩; have hb2 := HN.out.blk.kp hkp (by have := HN.out.old; simp; omega); have kc := hb2.cell; have kf := hb2.frozen; obtain rfl := hv; have HDD := Lib.hid (HN.out.dead hkp hR hne 2 (v := .slice none 0 0) rfl); clear hkp hR hne hb2; refine Hid.out ?_)
            refine Lib.hid ?_
            clear c0 c1 c2 f1 f2
            obtain ⟨w3, hw3⟩ : ∃ w3, w2.setCell ⟨w.heap.size + 1, 2, none⟩ (.slice none 0 0) = w3 := ⟨_, rfl⟩
            have HS3 : Hid (St w base R C c A l F G K (k + 1) w3) := by
              unfold Hid
              rw [← hw3]
              exact .inr ⟨_, _, HDD.out, HGE.out⟩
            go_wp2
            go_roundw
            case rel => exact ⟨k + 1, by omega, by go_num, HS3.out⟩
            case measure => simp [intOf]; omega
        · -- a
          have hg' : G = ((gGet 16 12 gAcl).bind fun x => gL (F.drop (k + 1)) { f with L := x }) l q := by rw [hg, gL]; show (((gGet 16 12 gAcl).bind fun x => Rg.ret { f with L := x }).bind _) l q = _; rw [bindA]; rfl
          have hx' : (Instr.index 9 (.string s3) (.int .i64 (k : Int))).run Tryz.prog wr = .ok (.int .u8 97) wr := hx
          have hcon : Calls Tryz.prog 92 #[.pointer (some ⟨R, 0, none⟩)] wr (RefV base R A c l (vAcls wr.heap.size) (fun v => ∃ A n c, v = .slice A n c) ((gGet 16 12 gAcl) l q) wr) := refv_acl base R A c l q wr HN.out.rdr
          clear hg hx
          rcases h1 : (gGet 16 12 gAcl) l q with ⟨x, q1⟩ | ⟨er, q1⟩
          · rw [h1] at hcon
            have HCON := Lib.hid hcon
            have HGN := Lib.hid (hg'.trans (gb_ev h1))
            have HX : Hid (x.length * 40 ≤ reachBytes ∧ ∀ y ∈ x, (Lit.int .i32 y.1).wf = true ∧ y.2.1.size ≤ reachBytes ∧ y.2.2.size ≤ reachBytes) := by have := gGet_all (Q := fun y : AclT => (Lit.int .i32 y.1).wf = true ∧ y.2.1.size ≤ 256 ∧ y.2.2.size ≤ 256) (fun _ _ _ _ h => gAcl_ok h) h1; unfold Hid reachBytes; refine ⟨by have := this.1; omega, fun y hy => ?_⟩; have := this.2 y hy; exact ⟨this.1, by omega, by omega⟩
            clear hcon hg' h1
            go_wp2_with (go_at_call 92; refine HCON.out.mono ?_; rintro e w2 ⟨⟨v, rfl, hv⟩, hkp, hR⟩; have hsz2 := hkp.size; have hst := HN.out.read hkp.two hR; have kc := hst.blk.cell; have kf := hst.blk.frozen; have HN2 := Lib.hid hst; have HCB2 := Lib.hid (HCB.out.kp hkp (by simpa using HRC.out)); clear hkp hR hst; have HZ2 := Lib.hid hsz2; clear hsz2; refine Hid.out ?_)
            refine Lib.hid ?_
            clear c0 c1 c2 f1 f2
            obtain ⟨A', c', rfl, ho⟩ := hv
            obtain ⟨w3, hw3⟩ : ∃ w3, w2.setCell ⟨w.heap.size + 1, 3, none⟩ (.slice A' x.length c') = w3 := ⟨_, rfl⟩
            have HS3 : Hid (St w base R C c A l F G K (k + 1) w3) := by
              unfold Hid
              rw [← hw3]
              exact .inl ⟨_, _, _, _, _, _, _, _, _, _, HN2.out.set_a (own_lowO ho HZ.out) HX.out.1 HX.out.2, HCB2.out.far (p := ⟨w.heap.size + 1, 3, none⟩) (by have := HN.out.oldC; simp; omega) _, HGN.out⟩
            go_wp2
            go_roundw
            case rel => exact ⟨k + 1, by omega, by go_num, HS3.out⟩
            case measure => simp [intOf]; omega
          · rw [h1] at hcon
            have HCON := Lib.hid hcon
            have HGE := Lib.hid (hg'.trans (gb_no h1))
            clear hcon hg' h1
            go_wp2_with (go_at_call 92; refine HCON.out.mono ?_; rintro e w2 ⟨⟨v, rfl, hv⟩, hne, hkp, hR⟩; have hb2 := HN.out.blk.kp hkp (by have := HN.out.old; simp; omega); have kc := hb2.cell; have kf := hb2.frozen; obtain ⟨A', n', c', rfl⟩ := hv; have HDD := Lib.hid (HN.out.dead hkp hR hne 3 (v := .slice A' n' c') rfl); clear hkp hR hne hb2; refine Hid.out ?_)
            refine Lib.hid ?_
            clear c0 c1 c2 f1 f2
            obtain ⟨w3, hw3⟩ : ∃ w3, w2.setCell ⟨w.heap.size + 1, 3, none⟩ (.slice A' n' c') = w3 := ⟨_, rfl⟩
            have HS3 : Hid (St w base R C c A l F G K (k + 1) w3) := by
              unfold Hid
              rw [← hw3]
              exact .inr ⟨_, _, HDD.out, HGE.out⟩
            go_wp2
            go_roundw
            case rel => exact ⟨k + 1, by omega, by go_num, HS3.out⟩
            case measure => simp [intOf]; omega
        · -- f
          have hg' : G = (gInt.bind fun x => gL (F.drop (k + 1)) { f with fl := x }) l q := by rw [hg, gL]; show ((gInt.bind fun x => Rg.ret { f with fl := x }).bind _) l q = _; rw [bindA]; rfl
          have hx' : (Instr.index 9 (.string s3) (.int .i64 (k : Int))).run Tryz.prog wr = .ok (.int .u8 102) wr := hx
          have hcon : Calls Tryz.prog 61 #[.pointer (some ⟨R, 0, none⟩)] wr (RefV base R A c l vInt32 (fun v => v = .int .i32 0) (gInt l q) wr) := refv_of (dInt base R A c l q wr HN.out.rdr)
          clear hg hx
          rcases h1 : gInt l q with ⟨x, q1⟩ | ⟨er, q1⟩
          · rw [h1] at hcon
            have HCON := Lib.hid hcon
            have HGN := Lib.hid (hg'.trans (gb_ev h1))
            have HX : Hid ((Lit.int .i32 x).wf = true) := gInt_wf h1
            clear hcon hg' h1
            go_wp2_with (go_at_call 61; refine HCON.out.mono ?_; rintro e w2 ⟨⟨v, rfl, hv⟩, hkp, hR⟩; have hsz2 := hkp.size; have hst := HN.out.read hkp.two hR; have kc := hst.blk.cell; have kf := hst.blk.frozen; have HN2 := Lib.hid hst; have HCB2 := Lib.hid (HCB.out.kp hkp (by simpa using HRC.out)); clear hkp hR hst; have HZ2 := Lib.hid hsz2; clear hsz2; refine Hid.out ?_)
            refine Lib.hid ?_
            clear c0 c1 c2 f1 f2
            obtain rfl := hv
            obtain ⟨w3, hw3⟩ : ∃ w3, w2.setCell ⟨w.heap.size + 1, 4, none⟩ (.int .i32 x) = w3 := ⟨_, rfl⟩
            have HS3 : Hid (St w base R C c A l F G K (k + 1) w3) := by
              unfold Hid
              rw [← hw3]
              exact .inl ⟨_, _, _, _, _, _, _, _, _, _, HN2.out.set_fl HX.out, HCB2.out.far (p := ⟨w.heap.size + 1, 4, none⟩) (by have := HN.out.oldC; simp; omega) _, HGN.out⟩
            go_wp2
            go_roundw
            case rel => exact ⟨k + 1, by omega, by go_num, HS3.out⟩
            case measure => simp [intOf]; omega
          · rw [h1] at hcon
            have HCON := Lib.hid hcon
            have HGE := Lib.hid (hg'.trans (gb_no h1))
            clear hcon hg' h1
            go_wp2_with (go_at_call 61; refine HCON.out.mono ?_; rintro e w2 ⟨⟨v, rfl, hv⟩, hne, hkp, hR⟩; have hb2 := HN.out.blk.kp hkp (by have := HN.out.old; simp; omega); have kc := hb2.cell; have kf := hb2.frozen; obtain rfl := hv; have HDD := Lib.hid (HN.out.dead hkp hR hne 4 (v := .int .i32 0) rfl); clear hkp hR hne hb2; refine Hid.out ?_)
            refine Lib.hid ?_
            clear c0 c1 c2 f1 f2
            obtain ⟨w3, hw3⟩ : ∃ w3, w2.setCell ⟨w.heap.size + 1, 4, none⟩ (.int .i32 0) = w3 := ⟨_, rfl⟩
            have HS3 : Hid (St w base R C c A l F G K (k + 1) w3) := by
              unfold Hid
              rw [← hw3]
              exact .inr ⟨_, _, HDD.out, HGE.out⟩
            go_wp2
            go_roundw
            case rel => exact ⟨k + 1, by omega, by go_num, HS3.out⟩
            case measure => simp [intOf]; omega
        · -- v
          have hg' : G = (gInt.bind fun x => gL (F.drop (k + 1)) { f with ve := x }) l q := by rw [hg, gL]; show ((gInt.bind fun x => Rg.ret { f with ve := x }).bind _) l q = _; rw [bindA]; rfl
          have hx' : (Instr.index 9 (.string s3) (.int .i64 (k : Int))).run Tryz.prog wr = .ok (.int .u8 118) wr := hx
          have hcon : Calls Tryz.prog 61 #[.pointer (some ⟨R, 0, none⟩)] wr (RefV base R A c l vInt32 (fun v => v = .int .i32 0) (gInt l q) wr) := refv_of (dInt base R A c l q wr HN.out.rdr)
          clear hg hx
          rcases h1 : gInt l q with ⟨x, q1⟩ | ⟨er, q1⟩
          · rw [h1] at hcon
            have HCON := Lib.hid hcon
            have HGN := Lib.hid (hg'.trans (gb_ev h1))
            have HX : Hid ((Lit.int .i32 x).wf = true) := gInt_wf h1
            clear hcon hg' h1
            go_wp2_with (go_at_call 61; refine HCON.out.mono ?_; rintro e w2 ⟨⟨v, rfl, hv⟩, hkp, hR⟩; have hsz2 := hkp.size; have hst := HN.out.read hkp.two hR; have kc := hst.blk.cell; have kf := hst.blk.frozen; have HN2 := Lib.hid hst; have HCB2 := Lib.hid (HCB.out.kp hkp (by simpa using HRC.out)); clear hkp hR hst; have HZ2 := Lib.hid hsz2; clear hsz2; refine Hid.out ?_)
            refine Lib.hid ?_
            clear c0 c1 c2 f1 f2
            obtain rfl := hv
            obtain ⟨w3, hw3⟩ : ∃ w3, w2.setCell ⟨w.heap.size + 1, 5, none⟩ (.int .i32 x) = w3 := ⟨_, rfl⟩
            have HS3 : Hid (St w base R C c A l F G K (k + 1) w3) := by
              unfold Hid
              rw [← hw3]
              exact .inl ⟨_, _, _, _, _, _, _, _, _, _, HN2.out.set_ve HX.out, HCB2.out.far (p := ⟨w.heap.size + 1, 5, none⟩) (by have := HN.out.oldC; simp; omega) _, HGN.out⟩
            go_wp2
            go_roundw
            case rel => exact ⟨k + 1, by omega, by go_num, HS3.out⟩
            case measure => simp [intOf]; omega
          · rw [h1] at hcon
            have HCON := Lib.hid hcon
            have HGE := Lib.hid (hg'.trans (gb_no h1))
            clear hcon hg' h1
            go_wp2_with (go_at_call 61; refine HCON.out.mono ?_; rintro e w2 ⟨⟨v, rfl, hv⟩, hne, hkp, hR⟩; have hb2 := HN.out.blk.kp hkp (by have := HN.out.old; simp; omega); have kc := hb2.cell; have kf := hb2.frozen; obtain rfl := hv; have HDD := Lib.hid (HN.out.dead hkp hR hne 5 (v := .int .i32 0) rfl); clear hkp hR hne hb2; refine Hid.out ?_)
            refine Lib.hid ?_
            clear c0 c1 c2 f1 f2
            obtain ⟨w3, hw3⟩ : ∃ w3, w2.setCell ⟨w.heap.size + 1, 5, none⟩ (.int .i32 0) = w3 := ⟨_, rfl⟩
            have HS3 : Hid (St w base R C c A l F G K (k + 1) w3) := by
              unfold Hid
              rw [← hw3]
              exact .inr ⟨_, _, HDD.out, HGE.out⟩
            go_wp2
            go_roundw
            case rel => exact ⟨k + 1, by omega, by go_num, HS3.out⟩
            case measure => simp [intOf]; omega
        · -- w
          have hg' : G = (gBool.bind fun x => gL (F.drop (k + 1)) { f with wa := x }) l q := by rw [hg, gL]; show ((gBool.bind fun x => Rg.ret { f with wa := x }).bind _) l q = _; rw [bindA]; rfl
          have hx' : (Instr.index 9 (.string s3) (.int .i64 (k : Int))).run Tryz.prog wr = .ok (.int .u8 119) wr := hx
          have hcon : Calls Tryz.prog 93 #[.pointer (some ⟨R, 0, none⟩)] wr (RefV base R A c l vBool (fun v => v = .bool false) (gBool l q) wr) := refv_of (dBool base R A c l q wr HN.out.rdr)
          clear hg hx
          rcases h1 : gBool l q with ⟨x, q1⟩ | ⟨er, q1⟩
          · rw [h1] at hcon
            have HCON := Lib.hid hcon
            have HGN := Lib.hid (hg'.trans (gb_ev h1))
            have HX : Hid (True) := trivial
            clear hcon hg' h1
            go_wp2_with (go_at_call 93; refine HCON.out.mono ?_; rintro e w2 ⟨⟨v, rfl, hv⟩, hkp, hR⟩; have hsz2 := hkp.size; have hst := HN.out.read hkp.two hR; have kc := hst.blk.cell; have kf := hst.blk.frozen; have HN2 := Lib.hid hst; have HCB2 := Lib.hid (HCB.out.kp hkp (by simpa using HRC.out)); clear hkp hR hst; have HZ2 := Lib.hid hsz2; clear hsz2; refine Hid.out ?_)
            refine Lib.hid ?_
            clear c0 c1 c2 f1 f2
            obtain rfl := hv
            obtain ⟨w3, hw3⟩ : ∃ w3, w2.setCell ⟨w.heap.size + 1, 6, none⟩ (.bool x) = w3 := ⟨_, rfl⟩
            have HS3 : Hid (St w base R C c A l F G K (k + 1) w3) := by
              unfold Hid
              rw [← hw3]
              exact .inl ⟨_, _, _, _, _, _, _, _, _, _, HN2.out.set_wa x, HCB2.out.far (p := ⟨w.heap.size + 1, 6, none⟩) (by have := HN.out.oldC; simp; omega) _, HGN.out⟩
            go_wp2
            go_roundw
            case rel => exact ⟨k + 1, by omega, by go_num, HS3.out⟩
            case measure => simp [intOf]; omega
          · rw [h1] at hcon
            have HCON := Lib.hid hcon
            have HGE := Lib.hid (hg'.trans (gb_no h1))
            clear hcon hg' h1
            go_wp2_with (go_at_call 93; refine HCON.out.mono ?_; rintro e w2 ⟨⟨v, rfl, hv⟩, hne, hkp, hR⟩; have hb2 := HN.out.blk.kp hkp (by have := HN.out.old; simp; omega); have kc := hb2.cell; have kf := hb2.frozen; obtain rfl := hv; have HDD := Lib.hid (HN.out.dead hkp hR hne 6 (v := .bool false) rfl); clear hkp hR hne hb2; refine Hid.out ?_)
            refine Lib.hid ?_
            clear c0 c1 c2 f1 f2
            obtain ⟨w3, hw3⟩ : ∃ w3, w2.setCell ⟨w.heap.size + 1, 6, none⟩ (.bool false) = w3 := ⟨_, rfl⟩
            have HS3 : Hid (St w base R C c A l F G K (k + 1) w3) := by
              unfold Hid
              rw [← hw3]
              exact .inr ⟨_, _, HDD.out, HGE.out⟩
            go_wp2
            go_roundw
            case rel => exact ⟨k + 1, by omega, by go_num, HS3.out⟩
            case measure => simp [intOf]; omega
        · -- l
          have hg' : G = (gLong.bind fun x => gL (F.drop (k + 1)) { f with tl := x }) l q := by rw [hg, gL]; show ((gLong.bind fun x => Rg.ret { f with tl := x }).bind _) l q = _; rw [bindA]; rfl
          have hx' : (Instr.index 9 (.string s3) (.int .i64 (k : Int))).run Tryz.prog wr = .ok (.int .u8 108) wr := hx
          have hcon : Calls Tryz.prog 94 #[.pointer (some ⟨R, 0, none⟩)] wr (RefV base R A c l vInt64 (fun v => v = .int .i64 0) (gLong l q) wr) := refv_of (dLong base R A c l q wr HN.out.rdr)
          clear hg hx
          rcases h1 : gLong l q with ⟨x, q1⟩ | ⟨er, q1⟩
          · rw [h1] at hcon
            have HCON := Lib.hid hcon
            have HGN := Lib.hid (hg'.trans (gb_ev h1))
            have HX : Hid ((Lit.int .i64 x).wf = true) := gLong_wf h1
            clear hcon hg' h1
            go_wp2_with (go_at_call 94; refine HCON.out.mono ?_; rintro e w2 ⟨⟨v, rfl, hv⟩, hkp, hR⟩; have hsz2 := hkp.size; have hst := HN.out.read hkp.two hR; have kc := hst.blk.cell; have kf := hst.blk.frozen; have HN2 := Lib.hid hst; have HCB2 := Lib.hid (HCB.out.kp hkp (by simpa using HRC.out)); clear hkp hR hst; have HZ2 := Lib.hid hsz2; clear hsz2; refine Hid.out ?_)
            refine Lib.hid ?_
            clear c0 c1 c2 f1 f2
            obtain rfl := hv
            obtain ⟨w3, hw3⟩ : ∃ w3, w2.setCell ⟨w.heap.size + 1, 9, none⟩ (.int .i64 x) = w3 := ⟨_, rfl⟩
            have HS3 : Hid (St w base R C c A l F G K (k + 1) w3) := by
              unfold Hid
              rw [← hw3]
              exact .inl ⟨_, _, _, _, _, _, _, _, _, _, HN2.out.set_tl HX.out, HCB2.out.far (p := ⟨w.heap.size + 1, 9, none⟩) (by have := HN.out.oldC; simp; omega) _, HGN.out⟩
            go_wp2
            go_roundw
            case rel => exact ⟨k + 1, by omega, by go_num, HS3.out⟩
            case measure => simp [intOf]; omega
          · rw [h1] at hcon
            have HCON := Lib.hid hcon
            have HGE := Lib.hid (hg'.trans (gb_no h1))
            clear hcon hg' h1
            go_wp2_with (go_at_call 94; refine HCON.out.mono ?_; rintro e w2 ⟨⟨v, rfl, hv⟩, hne, hkp, hR⟩; have hb2 := HN.out.blk.kp hkp (by have := HN.out.old; simp; omega); have kc := hb2.cell; have kf := hb2.frozen; obtain rfl := hv; have HDD := Lib.hid (HN.out.dead hkp hR hne 9 (v := .int .i64 0) rfl); clear hkp hR hne hb2; refine Hid.out ?_)
            refine Lib.hid ?_
            clear c0 c1 c2 f1 f2
            obtain ⟨w3, hw3⟩ : ∃ w3, w2.setCell ⟨w.heap.size + 1, 9, none⟩ (.int .i64 0) = w3 := ⟨_, rfl⟩
            have HS3 : Hid (St w base R C c A l F G K (k + 1) w3) := by
              unfold Hid
              rw [← hw3]
              exact .inr ⟨_, _, HDD.out, HGE.out⟩
            go_wp2
            go_roundw
            case rel => exact ⟨k + 1, by omega, by go_num, HS3.out⟩
            case measure => simp [intOf]; omega
        · -- z
          have hg' : G = (gLong.bind fun x => gL (F.drop (k + 1)) { f with zx := x }) l q := by rw [hg, gL]; show ((gLong.bind fun x => Rg.ret { f with zx := x }).bind _) l q = _; rw [bindA]; rfl
          have hx' : (Instr.index 9 (.string s3) (.int .i64 (k : Int))).run Tryz.prog wr = .ok (.int .u8 122) wr := hx
          have hcon : Calls Tryz.prog 94 #[.pointer (some ⟨R, 0, none⟩)] wr (RefV base R A c l vInt64 (fun v => v = .int .i64 0) (gLong l q) wr) := refv_of (dLong base R A c l q wr HN.out.rdr)
          clear hg hx
          rcases h1 : gLong l q with ⟨x, q1⟩ | ⟨er, q1⟩
          · rw [h1] at hcon
            have HCON := Lib.hid hcon
            have HGN := Lib.hid (hg'.trans (gb_ev h1))
            have HX : Hid ((Lit.int .i64 x).wf = true) := gLong_wf h1
            clear hcon hg' h1
            go_wp2_with (go_at_call 94; refine HCON.out.mono ?_; rintro e w2 ⟨⟨v, rfl, hv⟩, hkp, hR⟩; have hsz2 := hkp.size; have hst := HN.out.read hkp.two hR; have kc := hst.blk.cell; have kf := hst.blk.frozen; have HN2 := Lib.hid hst; have HCB2 := Lib.hid (HCB.out.kp hkp (by simpa using HRC.out)); clear hkp hR hst; have HZ2 := Lib.hid hsz2; clear hsz2; refine Hid.out ?_)
            refine Lib.hid ?_
            clear c0 c1 c2 f1 f2
            obtain rfl := hv
            obtain ⟨w3, hw3⟩ : ∃ w3, w2.setCell ⟨w.heap.size + 1, 10, none⟩ (.int .i64 x) = w3 := ⟨_, rfl⟩
            have HS3 : Hid (St w base R C c A l F G K (k + 1) w3) := by
              unfold Hid
              rw [← hw3]
              exact .inl ⟨_, _, _, _, _, _, _, _, _, _, HN2.out.set_zx HX.out, HCB2.out.far (p := ⟨w.heap.size + 1, 10, none⟩) (by have := HN.out.oldC; simp; omega) _, HGN.out⟩
            go_wp2
            go_roundw
            case rel => exact ⟨k + 1, by omega, by go_num, HS3.out⟩
            case measure => simp [intOf]; omega
          · rw [h1] at hcon
            have HCON := Lib.hid hcon
            have HGE := Lib.hid (hg'.trans (gb_no h1))
            clear hcon hg' h1
            go_wp2_with (go_at_call 94; refine HCON.out.mono ?_; rintro e w2 ⟨⟨v, rfl, hv⟩, hne, hkp, hR⟩; have hb2 := HN.out.blk.kp hkp (by have := HN.out.old; simp; omega); have kc := hb2.cell; have kf := hb2.frozen; obtain rfl := hv; have HDD := Lib.hid (HN.out.dead hkp hR hne 10 (v := .int .i64 0) rfl); clear hkp hR hne hb2; refine Hid.out ?_)
            refine Lib.hid ?_
            clear c0 c1 c2 f1 f2
            obtain ⟨w3, hw3⟩ : ∃ w3, w2.setCell ⟨w.heap.size + 1, 10, none⟩ (.int .i64 0) = w3 := ⟨_, rfl⟩
            have HS3 : Hid (St w base R C c A l F G K (k + 1) w3) := by
              unfold Hid
              rw [← hw3]
              exact .inr ⟨_, _, HDD.out, HGE.out⟩
            go_wp2
            go_roundw
            case rel => exact ⟨k + 1, by omega, by go_num, HS3.out⟩
            case measure => simp [intOf]; omega
        · -- t
          have hg' : G = (gInt.bind fun x => gL (F.drop (k + 1)) (⟨f.t, f.p, f.l, f.L, f.fl, f.ve, f.wa, f.ct, f.by_, f.tl, f.zx, f.K0, f.K1, f.K2, f.K3, f.K4, x, f.I⟩ : OpF)) l q := by rw [hg, gL]; show ((gInt.bind fun x => Rg.ret (⟨f.t, f.p, f.l, f.L, f.fl, f.ve, f.wa, f.ct, f.by_, f.tl, f.zx, f.K0, f.K1, f.K2, f.K3, f.K4, x, f.I⟩ : OpF)).bind _) l q = _; rw [bindA]; rfl
          have hx' : (Instr.index 9 (.string s3) (.int .i64 (k : Int))).run Tryz.prog wr = .ok (.int .u8 116) wr := hx
          have hcon : Calls Tryz.prog 61 #[.pointer (some ⟨R, 0, none⟩)] wr (RefV base R A c l vInt32 (fun v => v = .int .i32 0) (gInt l q) wr) := refv_of (dInt base R A c l q wr HN.out.rdr)
          clear hg hx
          rcases h1 : gInt l q with ⟨x, q1⟩ | ⟨er, q1⟩
          · rw [h1] at hcon
            have HCON := Lib.hid hcon
            have HGN := Lib.hid (hg'.trans (gb_ev h1))
            have HX : Hid ((Lit.int .i32 x).wf = true) := gInt_wf h1
            clear hcon hg' h1
            go_wp2_with (go_at_call 61; refine HCON.out.mono ?_; rintro e w2 ⟨⟨v, rfl, hv⟩, hkp, hR⟩; have hsz2 := hkp.size; have hst := HN.out.read hkp.two hR; have kc := hst.blk.cell; have kf := hst.blk.frozen; have HN2 := Lib.hid hst; have HCB2 := Lib.hid (HCB.out.kp hkp (by simpa using HRC.out)); clear hkp hR hst; have HZ2 := Lib.hid hsz2; clear hsz2; refine Hid.out ?_)
            refine Lib.hid ?_
            clear c0 c1 c2 f1 f2
            obtain rfl := hv
            obtain ⟨w3, hw3⟩ : ∃ w3, w2.setCell ⟨w.heap.size + 1, 16, none⟩ (.int .i32 x) = w3 := ⟨_, rfl⟩
            have HS3 : Hid (St w base R C c A l F G K (k + 1) w3) := by
              unfold Hid
              rw [← hw3]
              exact .inl ⟨_, _, _, _, _, _, _, _, _, _, HN2.out.set_to HX.out, HCB2.out.far (p := ⟨w.heap.size + 1, 16, none⟩) (by have := HN.out.oldC; simp; omega) _, HGN.out⟩
            go_wp2
            go_roundw
            case rel => exact ⟨k + 1, by omega, by go_num, HS3.out⟩
            case measure => simp [intOf]; omega
          · rw [h1] at hcon
            have HCON := Lib.hid hcon
            have HGE := Lib.hid (hg'.trans (gb_no h1))
            clear hcon hg' h1
            go_wp2_with (go_at_call 61; refine HCON.out.mono ?_; rintro e w2 ⟨⟨v, rfl, hv⟩, hne, hkp, hR⟩; have hb2 := HN.out.blk.kp hkp (by have := HN.out.old; simp; omega); have kc := hb2.cell; have kf := hb2.frozen; obtain rfl := hv; have HDD := Lib.hid (HN.out.dead hkp hR hne 16 (v := .int .i32 0) rfl); clear hkp hR hne hb2; refine Hid.out ?_)
            refine Lib.hid ?_
            clear c0 c1 c2 f1 f2
            obtain ⟨w3, hw3⟩ : ∃ w3, w2.setCell ⟨w.heap.size + 1, 16, none⟩ (.int .i32 0) = w3 := ⟨_, rfl⟩
            have HS3 : Hid (St w base R C c A l F G K (k + 1) w3) := by
              unfold Hid
              rw [← hw3]
              exact .inr ⟨_, _, HDD.out, HGE.out⟩
            go_wp2
            go_roundw
            case rel => exact ⟨k + 1, by omega, by go_num, HS3.out⟩
            case measure => simp [intOf]; omega
        · -- i
          have hg' : G = ((gGet 16 8 gIdO).bind fun x => gL (F.drop (k + 1)) { f with I := x }) l q := by rw [hg, gL]; show (((gGet 16 8 gIdO).bind fun x => Rg.ret { f with I := x }).bind _) l q = _; rw [bindA]; rfl
          have hx' : (Instr.index 9 (.string s3) (.int .i64 (k : Int))).run Tryz.prog wr = .ok (.int .u8 105) wr := hx
          have hcon : Calls Tryz.prog 96 #[.pointer (some ⟨R, 0, none⟩)] wr (RefV base R A c l (vIds wr.heap.size) (fun v => ∃ A n c, v = .slice A n c) ((gGet 16 8 gIdO) l q) wr) := refv_ids base R A c l q wr HN.out.rdr
          clear hg hx
          rcases h1 : (gGet 16 8 gIdO) l q with ⟨x, q1⟩ | ⟨er, q1⟩
          · rw [h1] at hcon
            have HCON := Lib.hid hcon
            have HGN := Lib.hid (hg'.trans (gb_ev h1))
            have HX : Hid (x.length * 32 ≤ reachBytes ∧ ∀ y ∈ x, y.1.size ≤ reachBytes ∧ y.2.size ≤ reachBytes) := by have := gGet_all (Q := fun y : ByteArray × ByteArray => y.1.size ≤ 256 ∧ y.2.size ≤ 256) (fun _ _ _ _ h => gIdO_ok h) h1; unfold Hid reachBytes; refine ⟨by have := this.1; omega, fun y hy => ?_⟩; have := this.2 y hy; exact ⟨by omega, by omega⟩
            clear hcon hg' h1
            go_wp2_with (go_at_call 96; refine HCON.out.mono ?_; rintro e w2 ⟨⟨v, rfl, hv⟩, hkp, hR⟩; have hsz2 := hkp.size; have hst := HN.out.read hkp.two hR; have kc := hst.blk.cell; have kf := hst.blk.frozen; have HN2 := Lib.hid hst; have HCB2 := Lib.hid (HCB.out.kp hkp (by simpa using HRC.out)); clear hkp hR hst; have HZ2 := Lib.hid hsz2; clear hsz2; refine Hid.out ?_)
            refine Lib.hid ?_
            clear c0 c1 c2 f1 f2
            obtain ⟨A', c', rfl, ho⟩ := hv
            obtain ⟨w3, hw3⟩ : ∃ w3, w2.setCell ⟨w.heap.size + 1, 17, none⟩ (.slice A' x.length c') = w3 := ⟨_, rfl⟩
            have HS3 : Hid (St w base R C c A l F G K (k + 1) w3) := by
              unfold Hid
              rw [← hw3]
              exact .inl ⟨_, _, _, _, _, _, _, _, _, _, HN2.out.set_i (own_lowO ho HZ.out) HX.out.1 HX.out.2, HCB2.out.far (p := ⟨w.heap.size + 1, 17, none⟩) (by have := HN.out.oldC; simp; omega) _, HGN.out⟩
            go_wp2
            go_roundw
            case rel => exact ⟨k + 1, by omega, by go_num, HS3.out⟩
            case measure => simp [intOf]; omega
          · rw [h1] at hcon
            have HCON := Lib.hid hcon
            have HGE := Lib.hid (hg'.trans (gb_no h1))
            clear hcon hg' h1
            go_wp2_with (go_at_call 96; refine HCON.out.mono ?_; rintro e w2 ⟨⟨v, rfl, hv⟩, hne, hkp, hR⟩; have hb2 := HN.out.blk.kp hkp (by have := HN.out.old; simp; omega); have kc := hb2.cell; have kf := hb2.frozen; obtain ⟨A', n', c', rfl⟩ := hv; have HDD := Lib.hid (HN.out.dead hkp hR hne 17 (v := .slice A' n' c') rfl); clear hkp hR hne hb2; refine Hid.out ?_)
            refine Lib.hid ?_
            clear c0 c1 c2 f1 f2
            obtain ⟨w3, hw3⟩ : ∃ w3, w2.setCell ⟨w.heap.size + 1, 17, none⟩ (.slice A' n' c') = w3 := ⟨_, rfl⟩
            have HS3 : Hid (St w base R C c A l F G K (k + 1) w3) := by
              unfold Hid
              rw [← hw3]
              exact .inr ⟨_, _, HDD.out, HGE.out⟩
            go_wp2
            go_roundw
            case rel => exact ⟨k + 1, by omega, by go_num, HS3.out⟩
            case measure => simp [intOf]; omega
        · -- count and bytes
          have hg' : G = (gLong.bind fun x => gLong.bind fun y => gL (F.drop (k + 1)) { { f with ct := x } with by_ := y }) l q := by rw [hg, gL]; show ((gLong.bind fun x => gLong.bind fun y => Rg.ret { { f with ct := x } with by_ := y }).bind _) l q = _; rw [bindA]; simp only [bindA]; rfl
          have hx' : (Instr.index 9 (.string s3) (.int .i64 (k : Int))).run Tryz.prog wr = .ok (.int .u8 99) wr := hx
          obtain ⟨r1, hr1⟩ : ∃ r, r = stepS gLong 0 l (q, 0) := ⟨_, rfl⟩
          obtain ⟨r2, hr2⟩ : ∃ r, r = stepS gLong 0 l r1.2 := ⟨_, rfl⟩
          have HCON : Hid (Calls Tryz.prog 94 #[.pointer (some ⟨R, 0, none⟩)] wr fun e w' => e = .returned (.int .i64 r1.1) ∧ Kp [R] wr w' ∧ RR w' base R A c l r1.2.1 r1.2.2) := (sLong base R A c l q 0 wr HN.out.rdr).mono fun e w' ⟨⟨v, h1, h2⟩, h3, h4⟩ => by rw [hr1]; exact ⟨by rw [h1]; exact congrArg Ending.returned h2, h3, h4⟩
          have HCON2 : Hid (∀ W, RR W base R A c l r1.2.1 r1.2.2 → Calls Tryz.prog 94 #[.pointer (some ⟨R, 0, none⟩)] W fun e w' => e = .returned (.int .i64 r2.1) ∧ Kp [R] W w' ∧ RR w' base R A c l r2.2.1 r2.2.2) := fun W hW => (sLong base R A c l r1.2.1 r1.2.2 W hW).mono fun e w' ⟨⟨v, h1, h2⟩, h3, h4⟩ => by rw [hr2]; exact ⟨by rw [h1]; exact congrArg Ending.returned h2, h3, h4⟩
          have HG := Lib.hid hg'
          have HR1 := Lib.hid hr1
          have HR2 := Lib.hid hr2
          clear hg hg' hx hr1 hr2
          go_wp2_with (go_at_call 94; refine HCON.out.mono ?_; rintro e w2 ⟨rfl, hkp, hR⟩; have hb2 := HN.out.blk.kp hkp (by have := HN.out.old; simp; omega); have kc := hb2.cell; have kf := hb2.frozen; have HB2 := Lib.hid hb2; have HKP := Lib.hid hkp; have HRR := Lib.hid hR; clear hkp hR hb2; refine Hid.out ?_)
          refine Lib.hid ?_
          clear c0 c1 c2 f1 f2
          obtain ⟨w3, hw3⟩ : ∃ w3, w2.setCell ⟨w.heap.size + 1, 7, none⟩ (.int .i64 r1.1) = w3 := ⟨_, rfl⟩
          have hR3 : RR w3 base R A c l r1.2.1 r1.2.2 := by rw [← hw3]; exact HRR.out.set (by have := HN.out.old; omega) (by have := HRR.out.old; have := HN.out.old; omega) 7 _
          have hb3 : Blk w3 (w.heap.size + 1) 29 ((f.row d a k0 k1 k2 k3 k4 i nilS).toArray.setIfInBounds 7 (.int .i64 r1.1)) := by rw [← hw3]; exact HB2.out.set_ 7 _
          have HB3 := Lib.hid hb3
          have HC3 := Lib.hid (HCON2.out w3 hR3)
          have HW3 := Lib.hid hw3
          clear hR3 hb3
          go_wp2_with (go_at_call 94; refine HC3.out.mono ?_; rintro e w4 ⟨rfl, hkp, hR⟩; have hb4 := HB3.out.kp hkp (by have := HN.out.old; simp; omega); have kc4 := hb4.cell; have kf4 := hb4.frozen; have HKP4 := Lib.hid hkp; have HRR4 := Lib.hid hR; clear hkp hR hb4; refine Hid.out ?_)
          refine Lib.hid ?_
          clear kc kf hw3
          obtain ⟨w5, hw5⟩ : ∃ w5, w4.setCell ⟨w.heap.size + 1, 8, none⟩ (.int .i64 r2.1) = w5 := ⟨_, rfl⟩
          have HS5 : Hid (St w base R C c A l F G K (k + 1) w5) := by
            unfold Hid
            rw [← hw5]
            have hr1 := HR1.out
            have hr2 := HR2.out
            rcases h1 : gLong l q with ⟨x, q1⟩ | ⟨er, q1⟩
            · rw [stepS_yes 0 h1] at hr1
              subst hr1
              have e1 := gLong_wf h1
              have HS3 : HSt w base R C c A l q1 { f with ct := x } d a k0 k1 k2 k3 k4 i nilS w3 := by rw [← HW3.out]; exact (HN.out.read HKP.out.two HRR.out).set_ct e1
              have hc3 : Blk w3 C 98 K := by rw [← HW3.out]; exact (HCB.out.kp HKP.out (by simpa using HRC.out)).far (p := ⟨w.heap.size + 1, 7, none⟩) (by have := HN.out.oldC; simp; omega) _
              rcases h2 : gLong l q1 with ⟨y, q2⟩ | ⟨er, q2⟩
              · rw [stepS_yes 0 h2] at hr2
                subst hr2
                exact .inl ⟨_, _, _, _, _, _, _, _, _, _, (HS3.read HKP4.out.two HRR4.out).set_by (gLong_wf h2), (hc3.kp HKP4.out (by simpa using HRC.out)).far (p := ⟨w.heap.size + 1, 8, none⟩) (by have := HN.out.oldC; simp; omega) _, by rw [HG.out, gb_ev h1, gb_ev h2]⟩
              · rw [stepS_no 0 h2] at hr2
                subst hr2
                exact .inr ⟨_, _, HS3.dead HKP4.out HRR4.out (sure_long _ _ _ _ h2) 8 rfl, by rw [HG.out, gb_ev h1, gb_no h2]⟩
            · have hne := sure_long _ _ _ _ h1
              rw [stepS_no 0 h1] at hr1
              subst hr1
              rw [stepS_dead _ _ _ hne] at hr2
              subst hr2
              have hd3 : Dead w base R C c A l q1 er w3 := by rw [← HW3.out]; exact HN.out.dead HKP.out HRR.out hne 7 rfl
              exact .inr ⟨_, _, hd3.again HKP4.out HRR4.out 8 rfl, by rw [HG.out, gb_no h1]⟩
          go_wp2
          go_roundw
          case rel => exact ⟨k + 1, by omega, by go_num, HS5.out⟩
          case measure => simp [intOf]; omega
end Go.Proofs.YtpjjnmdfgcfnmaaGreatDoor
