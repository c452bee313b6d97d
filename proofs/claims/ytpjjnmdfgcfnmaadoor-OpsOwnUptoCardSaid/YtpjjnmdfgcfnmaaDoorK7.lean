/- Part 7 of a proof: lemmas and walks. -/
import Derived.Test.YtpjjnmdfgcfnmaaDoorK6
import Derived.Test.YtpjjnmdfgcfnmaaDoorK4
set_option linter.unusedVariables false
set_option linter.unusedSimpArgs false
set_option maxRecDepth 100000
set_option maxHeartbeats 8000000
namespace Go.Proofs.YtpjjnmdfgcfnmaaDoor
open Go.RowKit

def validS (s : ByteArray) : Bool := Lib.validD s.data.toList
def longI (x : ByteArray × ByteArray) : Bool := decide ((x.1.size : Int) > 256) || decide ((x.2.size : Int) > 256)
def oddI (x : ByteArray × ByteArray) : Bool := !validS x.1 || !validS x.2
def longP (s : ByteArray) : Bool := decide ((s.size : Int) > 4096)
def oddP (s : ByteArray) : Bool := !validS s
def OpF.ids (f : OpF) : List (ByteArray × ByteArray) := f.I ++ f.L.map fun x => x.2
def OpF.texts (f : OpF) : List ByteArray := f.K0 ++ (f.K1 ++ (f.K2 ++ (f.K3 ++ f.K4)))
def manyB (f : OpF) (n : Nat) : Bool := ((f.lists.any fun l => decide ((l.length : Int) > 1024)) || f.texts.any longP) || ((f.t == 22) && decide ((n : Int) > 1024))
def bigB (f : OpF) (n : Nat) : Bool := ((((decide ((f.p.size : Int) > 4096) || decide ((f.l.length : Int) > 1048575)) || decide ((f.L.length : Int) > 16)) || decide ((f.I.length : Int) > 16)) || manyB f n) || f.ids.any longI
def oddB (f : OpF) (n : Nat) : Bool := ((((!validS f.p) || f.ids.any oddI) || f.texts.any oddP) || (!plainB f (keptF f))) || ((n : Int) != ((if f.t ∈ tS then n else 0 : Nat) : Int))
def ownE (f : OpF) (n : Nat) : Int := if kindN f.t = 0 then 110 else if bigB f n then 3 else if oddB f n then 1 else 0
theorem kind_types {t : Int} (h : kindN t ≠ 0) : t ∈ ownTypes := by
 unfold kindN at h
 rcases hf : kindL.find? (fun x => x.1 == t) with _ | x
 · rw [hf] at h
   exact absurd rfl h
 · have h1 := List.mem_of_find?_eq_some hf
   have h2 := List.find?_some hf
   have h3 : x.1 = t := by simpa using h2
   have h4 : ∀ x ∈ kindL, x.1 ∈ ownTypes := by decide
   rw [← h3]
   exact h4 x h1
theorem ids_size {f : OpF} (ok : f.Ok) : ∀ x ∈ f.ids, x.1.size ≤ reachBytes ∧ x.2.size ≤ reachBytes := fun x hx => by
 rcases List.mem_append.1 hx with h | h
 · exact ok.ids x h
 · obtain ⟨y, hy, rfl⟩ := List.mem_map.1 h
   exact ⟨(ok.acl y hy).2.1, (ok.acl y hy).2.2⟩
theorem texts_size {f : OpF} (ok : f.Ok) : ∀ x ∈ f.texts, x.size ≤ reachBytes := fun x hx => by
 unfold OpF.texts at hx
 simp only [List.mem_append] at hx
 rcases hx with h | h | h | h | h
 · exact ok.k0 x h
 · exact ok.k1 x h
 · exact ok.k2 x h
 · exact ok.k3 x h
 · exact ok.k4 x h
theorem own1_any (A : Option Addr) (n c : Nat) (w : World) (hn : n ≤ 4611686018427387904) : Calls Tryd.prog 72 #[.slice A n c] w fun e w' => e = .returned (.bool (decide ((n : Int) > 1024))) ∧ Below w.heap.size w w' := by
 go_enter Tryd.func72, Tryd.ntmps72
 go_wp2
 go_ret
 exact ⟨rfl, Below.refl _ _⟩
theorem own2_any (s : ByteArray) (w : World) : Calls Tryd.prog 74 #[.string s] w fun e w' => e = .returned (.bool (longP s)) ∧ Below w.heap.size w w' := by
 unfold longP
 go_enter Tryd.func74, Tryd.ntmps74
 go_wp2
 go_ret
 exact ⟨rfl, Below.refl _ _⟩
theorem own5_any (s : ByteArray) (w : World) (hs : s.size ≤ reachBytes) (E : Env w) : Calls Tryd.prog 80 #[.string s] w fun e w' => e = .returned (.bool (oddP s)) ∧ Below w.heap.size w w' := by
 have HV := Hi (vstr_any s w (by unfold reachBytes at hs; omega) E.tab)
 unfold oddP validS
 generalize Lib.validD s.data.toList = b at HV ⊢
 clear E hs
 go_enter Tryd.func80, Tryd.ntmps80
 go_wp2_with (go_at_call 77; refine (HV.out).mono ?_; rintro e w2 ⟨rfl, hb⟩; have HB2 := Hi hb; clear hb)
 go_ret
 exact ⟨rfl, HB2.out⟩

theorem own3_any (x : ByteArray × ByteArray) (w : World) : Calls Tryd.prog 75 #[.agg #[.string x.1, .string x.2]] w fun e w' => e = .returned (.bool (longI x)) ∧ Below w.heap.size w w' := by
 obtain ⟨s0, s1⟩ := x
 dsimp only
 unfold longI
 dsimp only
 obtain ⟨w1, hw1⟩ := xa w #[.string s0, .string s1] 72
 have HN1 := Hi (zW hw1)
 have HB1 := Hi (zV hw1)
 go_enter Tryd.func75, Tryd.ntmps75
 go_wp2_with (with_reducible refine wpAq 3 ?_; refine Hid.out ?_)
 refine Hi ?_
 refine wpList_seqA (w0 := w1) (.inl (.pointer (some ⟨w.heap.size, 0, none⟩)) ::
  .inl (.string s0) ::
  .inl (.int .i64 (s0.size : Int)) ::
  .inl (.bool (decide (((s0.size : Int) : Int) > 256))) ::
  .inl (.bool (decide (((s0.size : Int) : Int) > 256))) ::
  .inl (bif ((decide (((s0.size : Int) : Int) > 256)) == false) then .pointer (some ⟨w.heap.size, 1, none⟩) else undef) ::
  .inl (bif ((decide (((s0.size : Int) : Int) > 256)) == false) then .string s1 else undef) ::
  .inl (bif ((decide (((s0.size : Int) : Int) > 256)) == false) then .int .i64 (s1.size : Int) else undef) ::
  .inl (bif ((decide (((s0.size : Int) : Int) > 256)) == false) then .bool (decide (((s1.size : Int) : Int) > 256)) else undef) ::
  .inl (.bool ((decide (((s0.size : Int) : Int) > 256)) || (decide (((s1.size : Int) : Int) > 256)))) ::
  .inl (.bool ((decide (((s0.size : Int) : Int) > 256)) || (decide (((s1.size : Int) : Int) > 256)))) :: []) (by kernel_rfl) (by kernel_rfl) (nomono rfl) ⟨fun ac W hb o q K hK => op_u (u := .pointer (some ⟨w.heap.size, 0, none⟩)) rfl (r_field 72 _ 0 rfl (yA (hO o 1)) zU72 rfl (n := 0) isz_9 rfl) (kR hK),
  fun ac W hb o q K hK => op_u (u := .string s0) rfl (r_load 9 _ rfl (yA (dR q 0 3)) (yC (HN1.out.below hb HN1.out.lt) 0 rfl) zU9 rfl) (kR hK),
  fun ac W hb o q K hK => op_u (u := .int .i64 (s0.size : Int)) rfl (r_lens _ 9 rfl (yA (dR q 1 4)) zU9) (kR hK),
  fun ac W hb o q K hK => op_u (u := .bool (decide (((s0.size : Int) : Int) > 256))) rfl (r_igt 3 _ _ _ rfl (yA (dR q 2 5)) rfl) (kR hK),
  fun ac W hb o q K hK => op_u (u := .bool (decide (((s0.size : Int) : Int) > 256))) rfl (r_move _ rfl (yA (dR q 3 6))) (kR hK),
  fun ac W hb o q K hK => op_g (u := .pointer (some ⟨w.heap.size, 1, none⟩)) (wQ (dR q 4 7)) (fun hc => r_field 72 _ 1 rfl (yA (hO o 1)) zU72 rfl (n := 0) isz_9 rfl) (kR hK),
  fun ac W hb o q K hK => op_g (u := .string s1) (wQ (dR q 4 7)) (fun hc => r_load 9 _ rfl (yB (dR q 5 8) hc) (yC (HN1.out.below hb HN1.out.lt) 1 rfl) zU9 rfl) (kR hK),
  fun ac W hb o q K hK => op_g (u := .int .i64 (s1.size : Int)) (wQ (dR q 4 7)) (fun hc => r_lens _ 9 rfl (yB (dR q 6 9) hc) zU9) (kR hK),
  fun ac W hb o q K hK => op_g (u := .bool (decide (((s1.size : Int) : Int) > 256))) (wQ (dR q 4 7)) (fun hc => r_igt 3 _ _ _ rfl (yB (dR q 7 10) hc) rfl) (kR hK),
  fun ac W hb o q K hK => op_u (u := .bool ((decide (((s0.size : Int) : Int) > 256)) || (decide (((s1.size : Int) : Int) > 256)))) rfl (r_or _ _ _ rfl (yA (dR q 4 7)) rfl (fun hb => yB (dR q 8 11) (by simp [hb]))) (kR hK),
  fun ac W hb o q K hK => op_u (u := .bool ((decide (((s0.size : Int) : Int) > 256)) || (decide (((s1.size : Int) : Int) > 256)))) rfl (r_assign _ rfl (yA (dR q 9 12))) (kR hK), trivial⟩ ?_
 intro ae W hb hdef hlen hold hall
 have hv := dep_val (hall 10 2 rfl)
 have HB2 := Hi (HB1.out.trans (hb.mono HB1.out.size))
 clear hb hold hall hlen
 obtain ⟨tm, df⟩ := ae
 dsimp only at hdef hv
 subst hdef
 have HV := Hi hv
 clear hv
 go_wp2
 (try simp only [Exit.inBlock, Exit.then])
 refine bodyPost_ret (results_tmp rfl _ _ _) rfl ?_
 exact ⟨by rw [zP, HV.out]; rfl, HB2.out⟩
theorem own4_any (x : ByteArray × ByteArray) (w : World) (hs : x.1.size ≤ reachBytes ∧ x.2.size ≤ reachBytes) (E : Env w) : Calls Tryd.prog 76 #[.agg #[.string x.1, .string x.2]] w fun e w' => e = .returned (.bool (oddI x)) ∧ Below w.heap.size w w' := by
 obtain ⟨s0, s1⟩ := x
 dsimp only at hs ⊢
 have H0 : Hid (∀ W, Below w.heap.size w W → Calls Tryd.prog 77 #[.string s0] W fun e w' => e = .returned (.bool (validS s0)) ∧ Below W.heap.size W w') := fun W hW => vstr_any s0 W (by have := hs.1; unfold reachBytes at this; omega) (E.below hW).tab
 have H1 : Hid (∀ W, Below w.heap.size w W → Calls Tryd.prog 77 #[.string s1] W fun e w' => e = .returned (.bool (validS s1)) ∧ Below W.heap.size W w') := fun W hW => vstr_any s1 W (by have := hs.2; unfold reachBytes at this; omega) (E.below hW).tab
 unfold oddI
 dsimp only
 generalize validS s0 = v0 at H0 ⊢
 generalize validS s1 = v1 at H1 ⊢
 clear hs E
 obtain ⟨w1, hw1⟩ := xa w #[.string s0, .string s1] 72
 have HN1 := Hi (zW hw1)
 have HB1 := Hi (zV hw1)
 go_enter Tryd.func76, Tryd.ntmps76
 go_wp2_with (with_reducible refine wpAq 3 ?_; refine Hid.out ?_)
 refine Hi ?_
 refine wpList_seqA (w0 := w1) (.inl (.pointer (some ⟨w.heap.size, 0, none⟩)) ::
  .inl (.string s0) ::
  .inl (.bool v0) ::
  .inl (.bool (!v0)) ::
  .inl (.bool (!v0)) ::
  .inl (bif ((!v0) == false) then .pointer (some ⟨w.heap.size, 1, none⟩) else undef) ::
  .inl (bif ((!v0) == false) then .string s1 else undef) ::
  .inl (bif ((!v0) == false) then .bool v1 else undef) ::
  .inl (bif ((!v0) == false) then .bool (!v1) else undef) ::
  .inl (.bool ((!v0) || (!v1))) ::
  .inl (.bool ((!v0) || (!v1))) :: []) (by kernel_rfl) (by kernel_rfl) (nomono rfl) ⟨fun ac W hb o q K hK => op_u (u := .pointer (some ⟨w.heap.size, 0, none⟩)) rfl (r_field 72 _ 0 rfl (yA (hO o 1)) zU72 rfl (n := 0) isz_9 rfl) (kR hK),
  fun ac W hb o q K hK => op_u (u := .string s0) rfl (r_load 9 _ rfl (yA (dR q 0 3)) (yC (HN1.out.below hb HN1.out.lt) 0 rfl) zU9 rfl) (kR hK),
  fun ac W hb o q K hK => op_call (u := .bool v0) (c := true) (want_free rfl) 77 _ _ rfl (#[.string s0]) (fun hc => by simp [(yA (dR q 1 4))]) Tryd.func77 (by kernel_rfl) (by kernel_rfl) (fun hc => H0.out W (HB1.out.trans (hb.mono HB1.out.size))) (fun w' hbl => hK _ _ rfl hbl),
  fun ac W hb o q K hK => op_u (u := .bool (!v0)) rfl (r_not _ _ rfl (yA (dR q 2 5))) (kR hK),
  fun ac W hb o q K hK => op_u (u := .bool (!v0)) rfl (r_move _ rfl (yA (dR q 3 6))) (kR hK),
  fun ac W hb o q K hK => op_g (u := .pointer (some ⟨w.heap.size, 1, none⟩)) (wQ (dR q 4 7)) (fun hc => r_field 72 _ 1 rfl (yA (hO o 1)) zU72 rfl (n := 0) isz_9 rfl) (kR hK),
  fun ac W hb o q K hK => op_g (u := .string s1) (wQ (dR q 4 7)) (fun hc => r_load 9 _ rfl (yB (dR q 5 8) hc) (yC (HN1.out.below hb HN1.out.lt) 1 rfl) zU9 rfl) (kR hK),
  fun ac W hb o q K hK => op_call (u := .bool v1) (wQ (dR q 4 7)) 77 _ _ rfl (#[.string s1]) (fun hc => by simp [(yB (dR q 6 9) hc)]) Tryd.func77 (by kernel_rfl) (by kernel_rfl) (fun hc => H1.out W (HB1.out.trans (hb.mono HB1.out.size))) (fun w' hbl => hK _ _ rfl hbl),
  fun ac W hb o q K hK => op_g (u := .bool (!v1)) (wQ (dR q 4 7)) (fun hc => r_not _ _ rfl (yB (dR q 7 10) hc)) (kR hK),
  fun ac W hb o q K hK => op_u (u := .bool ((!v0) || (!v1))) rfl (r_or _ _ _ rfl (yA (dR q 4 7)) rfl (fun hb => yB (dR q 8 11) (by simp [hb]))) (kR hK),
  fun ac W hb o q K hK => op_u (u := .bool ((!v0) || (!v1))) rfl (r_assign _ rfl (yA (dR q 9 12))) (kR hK), trivial⟩ ?_
 intro ae W hb hdef hlen hold hall
 have hv := dep_val (hall 10 2 rfl)
 have HB2 := Hi (HB1.out.trans (hb.mono HB1.out.size))
 clear hb hold hall hlen
 obtain ⟨tm, df⟩ := ae
 dsimp only at hdef hv
 subst hdef
 have HV := Hi hv
 clear hv
 go_wp2
 (try simp only [Exit.inBlock, Exit.then])
 refine bodyPost_ret (results_tmp rfl _ _ _) rfl ?_
 exact ⟨by rw [zP, HV.out]; rfl, HB2.out⟩
theorem SlAt.kept {α : Type} {w : World} {lo : Option Nat} {e : TypeId} {size bytes : Nat} {s : Sl} {L : List α} {cells : List α → List Value} (h : SlAt w lo e size bytes s L.length (cells L)) (h0 : cells [] = []) (l : List Int) (t : Int) : SlAt w none e size bytes (kS l t s) (if t ∈ l then L else []).length (cells (if t ∈ l then L else [])) := by
 unfold kS
 split
 · exact h.any
 · rw [h0]
   exact ⟨fun _ => ⟨rfl, rfl⟩, Nat.le_refl _, Nat.zero_le _, (by show 0 * bytes ≤ _; rw [Nat.zero_mul]; exact Nat.zero_le _), rfl, ⟨(by show 0 = 0 * size; rw [Nat.zero_mul]), fun h => absurd h (by decide)⟩, fun b hb => nomatch hb⟩
theorem FAt.kept {w : World} {lo : Option Nat} {f : OpF} {d a k0 k1 k2 k3 k4 i : Sl} (h : FAt w lo f d a k0 k1 k2 k3 k4 i) : FAt w none (keptF f) (kS tD f.t d) (kS tA f.t a) (kS tZ f.t k0) (kS tZ f.t k1) (kS tZ f.t k2) (kS tZ f.t k3) (kS tZ f.t k4) (kS tT f.t i) :=
 ⟨h.d.kept rfl tD f.t, h.a.kept rfl tA f.t, h.k0.kept rfl tZ f.t, h.k1.kept rfl tZ f.t, h.k2.kept rfl tZ f.t, h.k3.kept rfl tZ f.t, h.k4.kept rfl tZ f.t, h.i.kept rfl tT f.t⟩

abbrev Oq15P1 (vP : Bool) (iO : Bool) (tO : Bool) (pl : Bool) : Bool := ((((!vP) || iO) || tO) || (!pl)) == false
abbrev Oq15P2 (mA : Bool) (tL : Bool) (f : OpF) : Bool := ((mA || tL) == false) && (((f.t : Int) == 22) == true)
abbrev Oq15P3 (f : OpF) (s : Sl) : Bool := ((f.t : Int) == 22) && (decide (((s.n : Int) : Int) > 1024))
abbrev Oq15P4 (mA : Bool) (tL : Bool) (f : OpF) (s : Sl) : Bool := (mA || tL) || (Oq15P3 f s)
abbrev Oq15P5 (f : OpF) (d : Sl) : Bool := (decide (((f.p.size : Int) : Int) > 4096)) || (decide (((d.n : Int) : Int) > 1048575))
abbrev Oq15P6 (f : OpF) (d : Sl) (a : Sl) : Bool := (Oq15P5 f d) || (decide (((a.n : Int) : Int) > 16))
abbrev Oq15P7 (f : OpF) (d : Sl) (a : Sl) (i : Sl) : Bool := (Oq15P6 f d a) || (decide (((i.n : Int) : Int) > 16))
abbrev Oq15P8 (f : OpF) (d : Sl) (a : Sl) (i : Sl) (mB : Bool) (iL : Bool) : Bool := ((Oq15P7 f d a i) || mB) || iL
abbrev Oq15P9 (f : OpF) (d : Sl) (a : Sl) (i : Sl) (mB : Bool) : Bool := ((Oq15P7 f d a i) || mB) == false

theorem row_one (f : OpF) (d a k0 k1 k2 k3 k4 i s : Sl) : (f.row d a k0 k1 k2 k3 k4 i s).toArray.all (·.oneCell') = true := by
 simp [OpF.row, Sl.v, Value.oneCell']
theorem zer_acl : ((Tryd.prog.info? 74).bind (·.zero)).map (·.cells.size) = some 3 := by kernel_rfl
theorem zer_id : ((Tryd.prog.info? 72).bind (·.zero)).map (·.cells.size) = some 2 := by kernel_rfl
theorem row_cells {w : World} {g : Nat} {T : TypeId} {cs : List Value} (h : Blk w g T cs.toArray) : ∀ k v, cs[k]? = some v → w.cell? ((⟨g, 0, none⟩ : Addr).add k) = some v := fun k v hv => by
 rw [zN, Nat.zero_add, h.cell k]
 simpa using hv
theorem idCells_snoc (L : List (ByteArray × ByteArray)) (x : ByteArray × ByteArray) : idCells (L ++ [x]) = idCells L ++ [.string x.1, .string x.2] := by simp [idCells]
theorem mark {p : Prop} (h : Hid p) : p := h.out
theorem own_of {lo : Option Nat} (f : OpF) (d a k0 k1 k2 k3 k4 i s : Sl) {len : Nat} {xs : List Value} (w : World) (h : FAt w lo f d a k0 k1 k2 k3 k4 i) (hs : SlAt w lo 29 19 296 s len xs) (ok : f.Ok) (E : Env w) (hsum : f.texts.length * 16 ≤ 140737488355328) (hids : (f.I.length + f.L.length) * 32 ≤ 140737488355328) (HKT : f.t ∈ ownTypes → ∀ W, Calls Tryd.prog 78 #[.agg (f.row d a k0 k1 k2 k3 k4 i s).toArray] W fun e w' => e = .returned (.agg (keptRow f d a k0 k1 k2 k3 k4 i s).toArray) ∧ Below W.heap.size W w') (cs : Array Value) (hcs : cs = (f.row d a k0 k1 k2 k3 k4 i s).toArray) :
 Calls Tryd.prog 52 #[.agg cs] w fun e w' => e = .returned (.int .i64 (ownE f s.n)) ∧ Below w.heap.size w w' := by
 obtain ⟨w1, hw1⟩ := xa w cs 29
 have hz1 : w1.heap.size = w.heap.size + 1 := by rw [← hw1]; simp
 have hb1 := zV hw1
 have hn1 : Blk w1 w.heap.size 29 (f.row d a k0 k1 k2 k3 k4 i s).toArray := by rw [← hcs, ← hw1]; exact Blk.new _ _ _
 have c0 : w1.cell? ⟨w.heap.size, 0, none⟩ = some (.int .i32 f.t) := yC hn1 0 rfl
 have HN1 := Hi hn1
 have HB1 := Hi hb1
 have HKIND : Hid (∀ W, Calls Tryd.prog 12 #[.int .i32 f.t] W fun e w' => e = .returned (.int .i64 (kindN f.t)) ∧ w' = W) := fun W => kind_any f.t W
 by_cases hk : kindN f.t = 0
 · have HE : Hid (ownE f s.n = 110) := by unfold Hid ownE; rw [if_pos hk]
   rw [HE.out]
   rw [hk] at HKIND
   clear hb1 hn1 h hs ok E hsum hids hcs hk HKT
   go_enter Tryd.func52, Tryd.ntmps52
   go_wp2_with (go_at_call 12; refine (HKIND.out _).mono ?_; rintro e w2 ⟨rfl, he⟩; obtain rfl := he.symm)
   go_ret
   exact ⟨rfl, HB1.out⟩
 have HKP := Hi (HKT (kind_types hk))
 clear HKT
 have hkb : (kindN f.t == 0) = false := by simpa using hk
 have HE0 : ownE f s.n = if bigB f s.n then 3 else if oddB f s.n then 1 else 0 := by unfold ownE; rw [if_neg hk]
 obtain ⟨r, hr⟩ : ∃ r, r = ownE f s.n := ⟨_, rfl⟩
 rw [← hr] at HE0 ⊢
 have HE := Hi HE0
 clear hr HE0
 have h1 : FAt w1 lo f d a k0 k1 k2 k3 k4 i := h.later hb1
 have HCI : Hid (∀ W, Below w1.heap.size w1 W → Calls Tryd.prog 37 #[.slice i.A i.n i.c] W fun e w' => ∃ s' : Sl, e = .returned (.slice s'.A s'.n s'.c) ∧ SlAt w' (some W.heap.size) 72 2 32 s' f.I.length (idCells f.I) ∧ Below W.heap.size W w') := fun W hW => idsClone_any (h1.i.later hW) (idCells_one _)
 have c3 := yC hn1 3 (u := .slice a.A a.n a.c) rfl
 have c13 := yC hn1 17 (u := .slice i.A i.n i.c) rfl
 have HF1 := Hi h1
 have HOK := Hi ok
 have HE1 := Hi (E.below hb1)
 have HSUM := Hi hsum
 have HIDS := Hi hids
 have HLI := Hi h1.i.len
 have HLA := Hi h1.a.len
 have HSL := Hi (hs.later hb1)
 generalize hkq : kindN f.t = kq at HKIND hkb
 obtain ⟨i0, hi0, hz0, hzi1, hzi2⟩ := info_parts id_info
 have hba : a.n ≤ 4611686018427387904 := h1.a.bd (by decide)
 clear hb1 hn1 h hs ok E hsum hids hcs hk h1 hkq
 go_enter Tryd.func52, Tryd.ntmps52
 go_wp2_with (first
  | (go_at_call 12; refine (HKIND.out _).mono ?_; rintro e w2 ⟨rfl, he⟩; obtain rfl := he.symm)
  | (go_at_call 37
     refine (HCI.out _ zT).mono ?_
     rintro e w2 ⟨s3, rfl, hs3, hb2⟩
     have HS3 := Hi hs3
     have HB2 := Hi hb2
     have d3 := yC (HN1.out.below hb2 HN1.out.lt) 3 (u := .slice a.A a.n a.c) rfl
     clear hs3 hb2 c0 c3 c13))
 clear d3 hkb HKIND HCI
 go_loopw [3, 21] (fun v3 vi wr => ∃ (k m : Nat) (A3 : Option Addr) (c3 : Nat), k ≤ a.n ∧ m ≤ 4398046511104 ∧ v3 = .slice A3 m c3 ∧ vi = .int .i64 (k : Int) ∧ Hid (wr.ownsRow w1.heap.size 72 2 (.slice A3 m c3) m (idCells (f.I ++ (f.L.take k).map fun x => x.2))) ∧ Hid (m = f.I.length + k) ∧ Hid (Below w1.heap.size w1 wr)) (fun _ vi _ => a.n - (intOf vi).toNat)
 case atStart =>
  refine ⟨0, s3.n, s3.A, s3.c, by omega, ?_, rfl, by go_num, ?_, ?_, HB2.out⟩
  · have h2 := HS3.out.len
    have h3 := HIDS.out
    omega
  · unfold Hid; simpa [Sl.v] using HS3.out.own _ rfl
  · have h2 := HS3.out.len
    unfold Hid
    omega
 case round =>
  clear HS3 HB2
  obtain ⟨k, m, A3, c3, hk, hm, rfl, rfl, HO, HM, HB⟩ := hrel
  by_cases hlt : k < a.n
  · have hkl : k < f.L.length := by rw [HLA.out]; exact hlt
    obtain ⟨b, off, hA, _, hx⟩ := (HF1.out.a.reads.below HB.out).plain (by omega) (by omega)
    obtain ⟨g0, g1, g2⟩ := aclCells_get f.L k hkl
    have x0 := hx _ _ g0
    have x1 := hx _ _ g1
    have x2 := hx _ _ g2
    have htk : (f.L.take (k + 1)).map (fun x => x.2) = (f.L.take k).map (fun x => x.2) ++ [f.L[k].2] := by rw [List.take_succ_eq_append_getElem hkl, List.map_append]; rfl
    obtain ⟨⟨q0, q1, q2⟩, hq⟩ : ∃ q, q = f.L[k] := ⟨_, rfl⟩
    rw [← hq] at x0 x1 x2 htk
    dsimp only at x0 x1 x2 htk
    have HROW : Hid (∀ j v, ([.int .i32 q0, .string q1, .string q2] : List Value)[j]? = some v → wr.cell? ((⟨b, off + k * 3, none⟩ : Addr).add j) = some v) := fun j v hv => by
     rw [zN]
     rcases j with _ | _ | _ | j
     · simp at hv; subst hv; simpa using x0
     · simp at hv; subst hv; simpa [Nat.add_assoc] using x1
     · simp at hv; subst hv; simpa [Nat.add_assoc] using x2
     · simp at hv
    have HTK : Hid (idCells (f.I ++ (f.L.take (k + 1)).map fun x => x.2) = idCells (f.I ++ (f.L.take k).map fun x => x.2) ++ [.string q1, .string q2]) := by unfold Hid; rw [htk, ← zL, idCells_snoc]
    have hm1 : m + 1 ≤ 4398046511104 := by
     have h2 := HM.out
     have h3 := HIDS.out
     omega
    obtain ⟨w3, hw3⟩ := xa wr #[.int .i32 q0, .string q1, .string q2] 74
    have hn3 := zW hw3
    have hb3 := zV hw3
    have HR3 : Hid (∀ j v, ([.string q1, .string q2] : List Value)[j]? = some v → w3.cell? ((⟨wr.heap.size, 1, none⟩ : Addr).add j) = some v) := fun j v hv => by
     rw [zN]
     rcases j with _ | _ | j
     · simp at hv; subst hv; exact yC hn3 1 rfl
     · simp at hv; subst hv; exact yC hn3 2 rfl
     · simp at hv
    obtain ⟨w4, hw4⟩ := xa w3 #[.string q1, .string q2] 72
    have hn4 := zW hw4
    have hb4 := zV hw4
    have hb34 : Below wr.heap.size wr w4 := hb3.trans (hb4.mono hb3.size)
    have HO4 := Hi (own_below HO.out hb34)
    have HB4 : Hid (Below w1.heap.size w1 w4) := HB.out.trans (hb34.mono HB.out.size)
    have HRD4 : Hid (Reads w4 w4.heap.size 2 (some ⟨w3.heap.size, 0, none⟩) 1 [.string q1, .string q2]) := ⟨rfl, fun _ => ⟨⟨w3.heap.size, 0, none⟩, rfl, hn4.lt, fun j u hj => row_cells hn4 j u hj⟩⟩
    have HA := Hi hA
    clear x0 x1 x2 g0 g1 g2 hx hkl hq htk hn3 hb3 hn4 hb4 hb34 hA
    rw [HA.out]
    go_wp2_with (first
     | (refine wpList_load_at (by rfl) 74 (.tmp 23) rfl ⟨b, off + k * 3, none⟩ rfl [.int .i32 q0, .string q1, .string q2] _ HROW.out zU74 rfl isz_74 ?_)
     | (refine wpList_newrow rfl rfl 74 rfl 5 rfl (.tmp 24) rfl rfl #[.int .i32 q0, .string q1, .string q2] (fun _ => rfl) (show 5 < 115 by decide) zer_acl isz_74 (by simp [Value.oneCell']) ?_
        rw [hw3])
     | (refine wpList_load_at (by rfl) 72 (.tmp 26) rfl ⟨wr.heap.size, 1, none⟩ rfl [.string q1, .string q2] _ HR3.out zU72 rfl isz_72 ?_)
     | (refine wpList_build1 rfl 26 72 (.tmp 27) rfl (.agg #[.string q1, .string q2]) rfl 2 zU26 isz_72 zer_id (by decide) rfl ?_
        have hc4 : (Value.agg #[.string q1, .string q2]).cells = #[.string q1, .string q2] := rfl
        rw [hc4, hw4]
        clear hc4)
     | (at_builtin
        refine wpList_append_any _ rfl (.tmp 25) (.tmp 28) _ rfl w1.heap.size 72 i0 _ 2 32 zU26 hi0 hz0 hzi1 hzi2 rfl (by decide) (.slice A3 m c3) m _ rfl HO4.out w4.heap.size (some ⟨w3.heap.size, 0, none⟩) 1 1 [.string q1, .string q2] rfl HRD4.out (by simp [Value.oneCell']) (by unfold maxLen; omega) (by omega) HB4.out.size ?_
        intro v5 w5 hown5 hg5 hat5
        obtain ⟨A5, c5, rfl⟩ := slice_form hown5
        have HO5 : Hid (w5.ownsRow w1.heap.size 72 2 (.slice A5 (m + 1) c5) (m + 1) (idCells (f.I ++ (f.L.take (k + 1)).map fun x => x.2))) := (by unfold Hid; rw [HTK.out]; exact hown5)
        have HB5 : Hid (Below w1.heap.size w1 w5) := HB4.out.grown hg5 HB4.out.size (fun q hq => (HO4.out.lt q hq).1)
        clear hown5 hg5 hat5))
    go_roundw
    case measure => simp [intOf]; omega
    exact ⟨k + 1, m + 1, A5, c5, by omega, by omega, rfl, by go_num, HO5.out, (by unfold Hid; have := HM.out; omega), HB5.out⟩
  · have hkn : k = a.n := by omega
    have hids : f.I ++ (f.L.take k).map (fun x => x.2) = f.ids := by
     rw [hkn, ← HLA.out, List.take_length]
     rfl
    rw [hids] at HO
    have HM2 : Hid (f.ids.length = m) := by
     unfold Hid OpF.ids
     rw [zG, List.length_map, HLA.out, HM.out, hkn]
    clear hids hkn HM
    clear HLA HLI HIDS
    have HXL : Hid (∀ W, Below wr.heap.size wr W → ListsAt W w1.heap.size w.heap.size 11 5 [(k0, f.K0), (k1, f.K1), (k2, f.K2), (k3, f.K3), (k4, f.K4)]) := fun W hW => listsAt HF1.out (HB.out.trans (hW.mono HB.out.size)) (HN1.out.below (HB.out.trans (hW.mono HB.out.size)) HN1.out.lt)
    have e0 := HF1.out.k0.len
    have e1 := HF1.out.k1.len
    have e2 := HF1.out.k2.len
    have e3 := HF1.out.k3.len
    have e4 := HF1.out.k4.len
    have hs5 : sumLen [(k0, f.K0), (k1, f.K1), (k2, f.K2), (k3, f.K3), (k4, f.K4)] * 16 ≤ 140737488355328 := by
     have := HSUM.out
     unfold OpF.texts at this
     simp only [zG] at this
     simp only [sumLen, List.map_cons, List.map_nil, List.sum_cons, List.sum_nil]
     omega
    have hXT : ([(k0, f.K0), (k1, f.K1), (k2, f.K2), (k3, f.K3), (k4, f.K4)] : List (Sl × List ByteArray)).flatMap Prod.snd = f.texts := by simp [OpF.texts]
    have HTN : Hid (f.texts.length ≤ 4611686018427387904) := by have := HSUM.out; unfold Hid; omega
    have HCC : Hid (∀ W, Below wr.heap.size wr W → Calls Tryd.prog 70 #[.slice (some ⟨w.heap.size, 11, none⟩) 5 5] W (Concated W f.texts)) := fun W hW => by
     rw [← hXT]
     exact concat_any w.heap.size 11 5 5 w1.heap.size [(k0, f.K0), (k1, f.K1), (k2, f.K2), (k3, f.K3), (k4, f.K4)] W (by decide) (Nat.le_trans HB.out.size hW.size) (Nat.lt_of_lt_of_le HN1.out.lt (Nat.le_trans HB.out.size hW.size)) (HXL.out W hW) hs5
    obtain ⟨mA, hmA⟩ : ∃ x, x = (f.lists.any fun l => decide ((l.length : Int) > 1024)) := ⟨_, rfl⟩
    have hmA2 : (([(k0, f.K0), (k1, f.K1), (k2, f.K2), (k3, f.K3), (k4, f.K4)] : List (Sl × List ByteArray)).any fun x => decide ((x.1.n : Int) > 1024)) = mA := by
     rw [hmA]
     simp only [OpF.lists, List.any_cons, List.any_nil, e0, e1, e2, e3, e4]
    have HCL : Hid (∀ W, Below wr.heap.size wr W → Calls Tryd.prog 71 #[.slice (some ⟨w.heap.size, 11, none⟩) 5 5, .func (.func 72) #[] #[]] W fun e w' => e = .returned (.bool mA) ∧ Below W.heap.size W w') := fun W hW => by
     rw [← hmA2]
     exact has_lists w.heap.size 11 5 5 w1.heap.size [(k0, f.K0), (k1, f.K1), (k2, f.K2), (k3, f.K3), (k4, f.K4)] (fun x => decide ((x.1.n : Int) > 1024)) 72 W (by decide) (Nat.le_trans HB.out.size hW.size) (Nat.lt_of_lt_of_le HN1.out.lt (Nat.le_trans HB.out.size hW.size)) (HXL.out W hW) (enter_fn Tryd.func72 (by kernel_rfl) (by kernel_rfl))
      (fun x hx W' _ => by
        obtain ⟨j, hj, rfl⟩ := List.mem_iff_getElem.1 hx
        exact own1_any _ _ _ W' ((HXL.out W hW).bd j hj))
    obtain ⟨tL, htL⟩ : ∃ x, x = f.texts.any longP := ⟨_, rfl⟩
    obtain ⟨iL, hiL⟩ : ∃ x, x = f.ids.any longI := ⟨_, rfl⟩
    obtain ⟨vP, hvP⟩ : ∃ x, x = validS f.p := ⟨_, rfl⟩
    obtain ⟨iO, hiO⟩ : ∃ x, x = f.ids.any oddI := ⟨_, rfl⟩
    obtain ⟨tO, htO⟩ : ∃ x, x = f.texts.any oddP := ⟨_, rfl⟩
    obtain ⟨pl, hpl⟩ : ∃ x, x = plainB f (keptF f) := ⟨_, rfl⟩
    obtain ⟨kn, hkn⟩ : ∃ x, x = kS tS f.t s := ⟨_, rfl⟩
    have hM : manyB f s.n = (Oq15P4 mA tL f s) := by
     unfold manyB
     rw [← hmA, ← htL]
    obtain ⟨mB, hmB⟩ : ∃ x, x = (Oq15P4 mA tL f s) := ⟨_, rfl⟩
    have hBig : bigB f s.n = (Oq15P8 f d a i mB iL) := by
     unfold bigB
     rw [hM, ← hmB, ← hiL, HF1.out.d.len, HF1.out.a.len, HF1.out.i.len]
    have hOdd : oddB f s.n = (((((!vP) || iO) || tO) || (!pl)) || (((s.n : Int) : Int) != (kn.n : Int))) := by
     unfold oddB
     rw [← hvP, ← hiO, ← htO, ← hpl, hkn]
     unfold kS
     split <;> rfl
    have HRES : Hid (r = if (Oq15P8 f d a i mB iL) then 3 else if (((((!vP) || iO) || tO) || (!pl)) || (((s.n : Int) : Int) != (kn.n : Int))) then 1 else 0) := by
     unfold Hid
     rw [HE.out, hBig, hOdd]
    have HMB := Hi hmB
    have HIL := Hi hiL
    have HTL := Hi htL
    have HVP := Hi hvP
    have HIO := Hi hiO
    have HTO := Hi htO
    have HPL := Hi hpl
    have HKN := Hi hkn
    clear e0 e1 e2 e3 e4 hs5 hXT hmA hmA2 hM hBig hOdd hmB hiL htL hvP hiO htO hpl hkn HE HXL HSUM
    go_wp2_with (first
     | (go_at_call 70
        refine (HCC.out _ zT).mono ?_
        rintro e w2 ⟨A6, c6, rfl, ho6, hb6⟩
        have HO6 := Hi ho6
        have HB6 := Hi hb6
        clear ho6 hb6)
     | (go_at_call 71
        refine (HCL.out _ HB6.out).mono ?_
        rintro e wA ⟨rfl, hb⟩
        have HOA := Hi (own_below HO6.out hb)
        have HBA : Hid (Below wr.heap.size wr wA) := HB6.out.trans (hb.mono HB6.out.size)
        clear hb HO6 HB6
        refine Hid.out ?_))
    refine Hi ?_
    iterate 12 go_step
    --MARK38
    have HB1A : Hid (Below w1.heap.size w1 wA) := HB.out.trans (HBA.out.mono HB.out.size)
    have HNA : Hid (Blk wA w.heap.size 29 (f.row d a k0 k1 k2 k3 k4 i s).toArray) := HN1.out.below HB1A.out HN1.out.lt
    have HRA : Hid (Reads wA wA.heap.size 1 A6 f.texts.length (strCells f.texts)) := Reads.of_own HOA.out
    have HR3 : Hid (Reads wA wA.heap.size 2 A3 m (idCells f.ids)) := Reads.of_own (own_below HO.out HBA.out)
    have CB : Hid (∀ W, Below wA.heap.size wA W → Calls Tryd.prog 73 #[.slice A6 f.texts.length c6, .func (.func 74) #[] #[]] W fun e w' => e = .returned (.bool tL) ∧ Below W.heap.size W w') := fun W hW => by
     rw [HTL.out]
     exact has_str A6 _ c6 wA.heap.size f.texts longP 74 W HTN.out hW.size (HRA.out.below hW) (enter_fn Tryd.func74 (by kernel_rfl) (by kernel_rfl)) (fun x _ W' _ => own2_any x W')
    clear HO HOA HCC HCL HTL HB HN1
    obtain ⟨x38, H38⟩ := xv (.bool mA)
    obtain ⟨x39, H39⟩ := xv (bif (mA == false) then .slice A6 f.texts.length c6 else undef)
    obtain ⟨x40, H40⟩ := xv (bif (mA == false) then .bool tL else undef)
    obtain ⟨x41, H41⟩ := xv (.bool (mA || tL))
    obtain ⟨x42, H42⟩ := xv (.bool (mA || tL))
    obtain ⟨x43, H43⟩ := xv (bif ((mA || tL) == false) then .pointer (some ⟨w.heap.size, 0, none⟩) else undef)
    obtain ⟨x44, H44⟩ := xv (bif ((mA || tL) == false) then .int .i32 f.t else undef)
    obtain ⟨x45, H45⟩ := xv (bif ((mA || tL) == false) then .bool ((f.t : Int) == 22) else undef)
    obtain ⟨x46, H46⟩ := xv (bif ((mA || tL) == false) then .bool ((f.t : Int) == 22) else undef)
    obtain ⟨x47, H47⟩ := xv (bif (Oq15P2 mA tL f) then .pointer (some ⟨w.heap.size, 18, none⟩) else undef)
    obtain ⟨x48, H48⟩ := xv (bif (Oq15P2 mA tL f) then .slice s.A s.n s.c else undef)
    obtain ⟨x49, H49⟩ := xv (bif (Oq15P2 mA tL f) then .int .i64 (s.n : Int) else undef)
    obtain ⟨x50, H50⟩ := xv (bif (Oq15P2 mA tL f) then .bool (decide (((s.n : Int) : Int) > 1024)) else undef)
    obtain ⟨x51, H51⟩ := xv (bif ((mA || tL) == false) then .bool (Oq15P3 f s) else undef)
    obtain ⟨x52, H52⟩ := xv (.bool (Oq15P4 mA tL f s))
    refine wpList_seq (w0 := wA) (.inl x38 ::
     .inl x39 ::
     .inl x40 ::
     .inl x41 ::
     .inl x42 ::
     .inl x43 ::
     .inl x44 ::
     .inl x45 ::
     .inl x46 ::
     .inl x47 ::
     .inl x48 ::
     .inl x49 ::
     .inl x50 ::
     .inl x51 ::
     .inl x52 ::
     .inl (.bool (Oq15P4 mA tL f s)) :: []) rfl (by kernel_rfl) (by kernel_rfl) (nomono rfl) ⟨fun ac W hb o q K hK => op_u (u := .bool mA) rfl (r_move _ rfl (yA (hO o 37))) (kH hK H38),
     fun ac W hb o q K hK => op_g (u := .slice A6 f.texts.length c6) (wQ (dQ q 0 38 H38)) (fun hc => r_move _ rfl (yA (hO o 6))) (kH hK H39),
     fun ac W hb o q K hK => op_call (u := .bool tL) (wQ (dQ q 0 38 H38)) 73 _ _ rfl (#[.slice A6 f.texts.length c6, .func (.func 74) #[] #[]]) (fun hc => by simp [(yB (dQ q 1 39 H39) hc), (show ac.eval (.func 74) = .func (.func 74) #[] #[] from rfl)]) Tryd.func73 (by kernel_rfl) (by kernel_rfl) (fun hc => CB.out W hb) (fun w' hbl => hK _ _ H40.out.symm hbl),
     fun ac W hb o q K hK => op_u (u := .bool (mA || tL)) rfl (r_or _ _ _ rfl (yA (dQ q 0 38 H38)) rfl (fun hb => yB (dQ q 2 40 H40) (by simp [hb]))) (kH hK H41),
     fun ac W hb o q K hK => op_u (u := .bool (mA || tL)) rfl (r_move _ rfl (yA (dQ q 3 41 H41))) (kH hK H42),
     fun ac W hb o q K hK => op_g (u := .pointer (some ⟨w.heap.size, 0, none⟩)) (wQ (dQ q 4 42 H42)) (fun hc => r_field 29 _ 0 rfl (yA (hO o 1)) zU29 rfl (n := 0) isz_21 rfl) (kH hK H43),
     fun ac W hb o q K hK => op_g (u := .int .i32 f.t) (wQ (dQ q 4 42 H42)) (fun hc => r_load 21 _ rfl (yB (dQ q 5 43 H43) hc) (yC (HNA.out.below hb HNA.out.lt) 0 rfl) zU21 rfl) (kH hK H44),
     fun ac W hb o q K hK => op_g (u := .bool ((f.t : Int) == 22)) (wQ (dQ q 4 42 H42)) (fun hc => r_ieq 21 _ _ _ rfl (yB (dQ q 6 44 H44) hc) rfl) (kH hK H45),
     fun ac W hb o q K hK => op_g (u := .bool ((f.t : Int) == 22)) (wQ (dQ q 4 42 H42)) (fun hc => r_move _ rfl (yB (dQ q 7 45 H45) hc)) (kH hK H46),
     fun ac W hb o q K hK => op_g (u := .pointer (some ⟨w.heap.size, 18, none⟩)) (want_if rfl rfl (dQ q 8 46 H46)) (fun hc => r_field 29 _ 14 rfl (yA (hO o 1)) zU29 rfl (n := 0) isz_27 rfl) (kH hK H47),
     fun ac W hb o q K hK => op_g (u := .slice s.A s.n s.c) (want_if rfl rfl (dQ q 8 46 H46)) (fun hc => r_load 27 _ rfl (yB (dQ q 9 47 H47) hc) (yC (HNA.out.below hb HNA.out.lt) 18 rfl) zU27 rfl) (kH hK H48),
     fun ac W hb o q K hK => op_g (u := .int .i64 (s.n : Int)) (want_if rfl rfl (dQ q 8 46 H46)) (fun hc => r_len #[] #[] _ 27 rfl (yB (dQ q 10 48 H48) hc) zU27) (kH hK H49),
     fun ac W hb o q K hK => op_g (u := .bool (decide (((s.n : Int) : Int) > 1024))) (want_if rfl rfl (dQ q 8 46 H46)) (fun hc => r_igt 3 _ _ _ rfl (yB (dQ q 11 49 H49) hc) rfl) (kH hK H50),
     fun ac W hb o q K hK => op_g (u := .bool (Oq15P3 f s)) (wQ (dQ q 4 42 H42)) (fun hc => r_and _ _ _ rfl (yB (dQ q 8 46 H46) hc) (fun hb => yB (dQ q 12 50 H50) (by simp [hb, hc])) rfl) (kH hK H51),
     fun ac W hb o q K hK => op_u (u := .bool (Oq15P4 mA tL f s)) rfl (r_or _ _ _ rfl (yA (dQ q 4 42 H42)) rfl (fun hb => yB (dQ q 13 51 H51) (by simp [hb]))) (kH hK H52),
     fun ac W hb o q K hK => op_u (u := .bool (Oq15P4 mA tL f s)) rfl (r_assign _ rfl (yA (dQ q 14 52 H52))) (kR hK), trivial⟩ ?_
    intro w3 hb3
    simp only [Fin, Act.put, zD, zA, zB]
    clear H38 H39 H40 H41 H42 H43 H44 H45 H46 H47 H48 H49 H50 H51 H52
    rw [← HMB.out]
    have HB3 := Hi hb3
    have HN3 : Hid (Blk w3 w.heap.size 29 (f.row d a k0 k1 k2 k3 k4 i s).toArray) := HNA.out.below hb3 HNA.out.lt
    have HR14 : Hid (∀ j v, (f.row d a k0 k1 k2 k3 k4 i s)[j]? = some v → w3.cell? ((⟨w.heap.size, 0, none⟩ : Addr).add j) = some v) := row_cells HN3.out
    have HKA : Hid (∀ W, Calls Tryd.prog 78 #[.agg (f.row d a k0 k1 k2 k3 k4 i s).toArray] W fun e w' => e = .returned (.agg (keptRow f d a k0 k1 k2 k3 k4 i s).toArray) ∧ Below W.heap.size W w') := HKP.out
    have HK1 : Hid ((keptRow f d a k0 k1 k2 k3 k4 i s).toArray.all (·.oneCell') = true) := row_one _ _ _ _ _ _ _ _ _ _
    clear hb3 CB
    go_wp2_with (first
     | (with_reducible refine wpAq 53 ?_
        refine wpList_load_at (by rfl) 29 (.tmp 1) rfl ⟨w.heap.size, 0, none⟩ rfl (f.row d a k0 k1 k2 k3 k4 i s) _ HR14.out zU29 rfl isz_29 ?_)
     | (go_at_call 78
        refine (HKA.out _).mono ?_
        rintro e wB ⟨rfl, hb⟩
        have HBB := Hi hb
        clear hb
        obtain ⟨wC, hwC⟩ := xa wB (keptRow f d a k0 k1 k2 k3 k4 i s).toArray 29
        have HKC := Hi (zW hwC)
        have HBC : Hid (Below wB.heap.size wB wC) := (by unfold Hid; rw [← hwC]; exact zT.alloc zR _))
     | (with_reducible refine wpAq 10 ?_
        refine wpList_newrow rfl rfl 29 rfl 10 rfl (.tmp 54) rfl rfl (keptRow f d a k0 k1 k2 k3 k4 i s).toArray (fun _ => rfl) (show 10 < 115 by decide) zer_op isz_29 HK1.out ?_
        rw [hwC]
        refine Hid.out ?_))
    refine Hi ?_
    simp only [Act.put, zD, zA, zB]
    iterate 6 go_step
    --MARK56
    have HBAC : Hid (Below wA.heap.size wA wC) := (HB3.out.trans (HBB.out.mono HB3.out.size)).trans (HBC.out.mono (Nat.le_trans HB3.out.size HBB.out.size))
    have HNC : Hid (Blk wC w.heap.size 29 (f.row d a k0 k1 k2 k3 k4 i s).toArray) := HNA.out.below HBAC.out HNA.out.lt
    have C3 : Hid (∀ W, Below wC.heap.size wC W → Calls Tryd.prog 79 #[.slice A3 m c3, .func (.func 75) #[] #[]] W fun e w' => e = .returned (.bool iL) ∧ Below W.heap.size W w') := fun W hW => by
     rw [HIL.out]
     exact has_id A3 _ c3 wA.heap.size f.ids longI 75 W (Nat.le_trans hm (by decide)) (Nat.le_trans HBAC.out.size hW.size) (HR3.out.below (HBAC.out.trans (hW.mono HBAC.out.size))) (enter_fn Tryd.func75 (by kernel_rfl) (by kernel_rfl)) (fun x _ W' _ => own3_any x W')
    clear hwC HBB HBC HKA HK1 HR14 HN3 HB3 HIL
    obtain ⟨x56, H56⟩ := xv (.pointer (some ⟨w.heap.size, 1, none⟩))
    obtain ⟨x57, H57⟩ := xv (.string f.p)
    obtain ⟨x58, H58⟩ := xv (.int .i64 (f.p.size : Int))
    obtain ⟨x59, H59⟩ := xv (.bool (decide (((f.p.size : Int) : Int) > 4096)))
    obtain ⟨x60, H60⟩ := xv (.bool (decide (((f.p.size : Int) : Int) > 4096)))
    obtain ⟨x61, H61⟩ := xv (bif ((decide (((f.p.size : Int) : Int) > 4096)) == false) then .pointer (some ⟨w.heap.size, 2, none⟩) else undef)
    obtain ⟨x62, H62⟩ := xv (bif ((decide (((f.p.size : Int) : Int) > 4096)) == false) then .slice d.A d.n d.c else undef)
    obtain ⟨x63, H63⟩ := xv (bif ((decide (((f.p.size : Int) : Int) > 4096)) == false) then .int .i64 (d.n : Int) else undef)
    obtain ⟨x64, H64⟩ := xv (bif ((decide (((f.p.size : Int) : Int) > 4096)) == false) then .bool (decide (((d.n : Int) : Int) > 1048575)) else undef)
    obtain ⟨x65, H65⟩ := xv (.bool (Oq15P5 f d))
    obtain ⟨x66, H66⟩ := xv (.bool (Oq15P5 f d))
    obtain ⟨x67, H67⟩ := xv (bif ((Oq15P5 f d) == false) then .pointer (some ⟨w.heap.size, 3, none⟩) else undef)
    obtain ⟨x68, H68⟩ := xv (bif ((Oq15P5 f d) == false) then .slice a.A a.n a.c else undef)
    obtain ⟨x69, H69⟩ := xv (bif ((Oq15P5 f d) == false) then .int .i64 (a.n : Int) else undef)
    obtain ⟨x70, H70⟩ := xv (bif ((Oq15P5 f d) == false) then .bool (decide (((a.n : Int) : Int) > 16)) else undef)
    obtain ⟨x71, H71⟩ := xv (.bool (Oq15P6 f d a))
    obtain ⟨x72, H72⟩ := xv (.bool (Oq15P6 f d a))
    obtain ⟨x73, H73⟩ := xv (bif ((Oq15P6 f d a) == false) then .pointer (some ⟨w.heap.size, 17, none⟩) else undef)
    obtain ⟨x74, H74⟩ := xv (bif ((Oq15P6 f d a) == false) then .slice i.A i.n i.c else undef)
    obtain ⟨x75, H75⟩ := xv (bif ((Oq15P6 f d a) == false) then .int .i64 (i.n : Int) else undef)
    obtain ⟨x76, H76⟩ := xv (bif ((Oq15P6 f d a) == false) then .bool (decide (((i.n : Int) : Int) > 16)) else undef)
    obtain ⟨x77, H77⟩ := xv (.bool (Oq15P7 f d a i))
    obtain ⟨x78, H78⟩ := xv (.bool (Oq15P7 f d a i))
    obtain ⟨x79, H79⟩ := xv (bif ((Oq15P7 f d a i) == false) then .bool mB else undef)
    obtain ⟨x80, H80⟩ := xv (.bool ((Oq15P7 f d a i) || mB))
    obtain ⟨x81, H81⟩ := xv (.bool ((Oq15P7 f d a i) || mB))
    obtain ⟨x82, H82⟩ := xv (bif (Oq15P9 f d a i mB) then .slice A3 m c3 else undef)
    obtain ⟨x83, H83⟩ := xv (bif (Oq15P9 f d a i mB) then .func (.func 75) #[] #[] else undef)
    obtain ⟨x84, H84⟩ := xv (bif (Oq15P9 f d a i mB) then .bool iL else undef)
    obtain ⟨x85, H85⟩ := xv (.bool (Oq15P8 f d a i mB iL))
    refine wpList_seq (w0 := wC) (.inl x56 ::
     .inl x57 ::
     .inl x58 ::
     .inl x59 ::
     .inl x60 ::
     .inl x61 ::
     .inl x62 ::
     .inl x63 ::
     .inl x64 ::
     .inl x65 ::
     .inl x66 ::
     .inl x67 ::
     .inl x68 ::
     .inl x69 ::
     .inl x70 ::
     .inl x71 ::
     .inl x72 ::
     .inl x73 ::
     .inl x74 ::
     .inl x75 ::
     .inl x76 ::
     .inl x77 ::
     .inl x78 ::
     .inl x79 ::
     .inl x80 ::
     .inl x81 ::
     .inl x82 ::
     .inl x83 ::
     .inl x84 ::
     .inl x85 ::
     .inl (.bool (Oq15P8 f d a i mB iL)) :: []) rfl (by kernel_rfl) (by kernel_rfl) (nomono rfl) ⟨fun ac W hb o q K hK => op_u (u := .pointer (some ⟨w.heap.size, 1, none⟩)) rfl (r_field 29 _ 1 rfl (yA (hO o 1)) zU29 rfl (n := 0) isz_9 rfl) (kH hK H56),
     fun ac W hb o q K hK => op_u (u := .string f.p) rfl (r_load 9 _ rfl (yA (dQ q 0 56 H56)) (yC (HNC.out.below hb HNC.out.lt) 1 rfl) zU9 rfl) (kH hK H57),
     fun ac W hb o q K hK => op_u (u := .int .i64 (f.p.size : Int)) rfl (r_lens _ 9 rfl (yA (dQ q 1 57 H57)) zU9) (kH hK H58),
     fun ac W hb o q K hK => op_u (u := .bool (decide (((f.p.size : Int) : Int) > 4096))) rfl (r_igt 3 _ _ _ rfl (yA (dQ q 2 58 H58)) rfl) (kH hK H59),
     fun ac W hb o q K hK => op_u (u := .bool (decide (((f.p.size : Int) : Int) > 4096))) rfl (r_move _ rfl (yA (dQ q 3 59 H59))) (kH hK H60),
     fun ac W hb o q K hK => op_g (u := .pointer (some ⟨w.heap.size, 2, none⟩)) (wQ (dQ q 4 60 H60)) (fun hc => r_field 29 _ 2 rfl (yA (hO o 1)) zU29 rfl (n := 0) isz_22 rfl) (kH hK H61),
     fun ac W hb o q K hK => op_g (u := .slice d.A d.n d.c) (wQ (dQ q 4 60 H60)) (fun hc => r_load 22 _ rfl (yB (dQ q 5 61 H61) hc) (yC (HNC.out.below hb HNC.out.lt) 2 rfl) zU22 rfl) (kH hK H62),
     fun ac W hb o q K hK => op_g (u := .int .i64 (d.n : Int)) (wQ (dQ q 4 60 H60)) (fun hc => r_len #[] #[] _ 22 rfl (yB (dQ q 6 62 H62) hc) zU22) (kH hK H63),
     fun ac W hb o q K hK => op_g (u := .bool (decide (((d.n : Int) : Int) > 1048575))) (wQ (dQ q 4 60 H60)) (fun hc => r_igt 3 _ _ _ rfl (yB (dQ q 7 63 H63) hc) rfl) (kH hK H64),
     fun ac W hb o q K hK => op_u (u := .bool (Oq15P5 f d)) rfl (r_or _ _ _ rfl (yA (dQ q 4 60 H60)) rfl (fun hb => yB (dQ q 8 64 H64) (by simp [hb]))) (kH hK H65),
     fun ac W hb o q K hK => op_u (u := .bool (Oq15P5 f d)) rfl (r_move _ rfl (yA (dQ q 9 65 H65))) (kH hK H66),
     fun ac W hb o q K hK => op_g (u := .pointer (some ⟨w.heap.size, 3, none⟩)) (wQ (dQ q 10 66 H66)) (fun hc => r_field 29 _ 3 rfl (yA (hO o 1)) zU29 rfl (n := 0) isz_23 rfl) (kH hK H67),
     fun ac W hb o q K hK => op_g (u := .slice a.A a.n a.c) (wQ (dQ q 10 66 H66)) (fun hc => r_load 23 _ rfl (yB (dQ q 11 67 H67) hc) (yC (HNC.out.below hb HNC.out.lt) 3 rfl) zU23 rfl) (kH hK H68),
     fun ac W hb o q K hK => op_g (u := .int .i64 (a.n : Int)) (wQ (dQ q 10 66 H66)) (fun hc => r_len #[] #[] _ 23 rfl (yB (dQ q 12 68 H68) hc) zU23) (kH hK H69),
     fun ac W hb o q K hK => op_g (u := .bool (decide (((a.n : Int) : Int) > 16))) (wQ (dQ q 10 66 H66)) (fun hc => r_igt 3 _ _ _ rfl (yB (dQ q 13 69 H69) hc) rfl) (kH hK H70),
     fun ac W hb o q K hK => op_u (u := .bool (Oq15P6 f d a)) rfl (r_or _ _ _ rfl (yA (dQ q 10 66 H66)) rfl (fun hb => yB (dQ q 14 70 H70) (by simp [hb]))) (kH hK H71),
     fun ac W hb o q K hK => op_u (u := .bool (Oq15P6 f d a)) rfl (r_move _ rfl (yA (dQ q 15 71 H71))) (kH hK H72),
     fun ac W hb o q K hK => op_g (u := .pointer (some ⟨w.heap.size, 17, none⟩)) (wQ (dQ q 16 72 H72)) (fun hc => r_field 29 _ 13 rfl (yA (hO o 1)) zU29 rfl (n := 0) isz_26 rfl) (kH hK H73),
     fun ac W hb o q K hK => op_g (u := .slice i.A i.n i.c) (wQ (dQ q 16 72 H72)) (fun hc => r_load 26 _ rfl (yB (dQ q 17 73 H73) hc) (yC (HNC.out.below hb HNC.out.lt) 17 rfl) zU26 rfl) (kH hK H74),
     fun ac W hb o q K hK => op_g (u := .int .i64 (i.n : Int)) (wQ (dQ q 16 72 H72)) (fun hc => r_len #[] #[] _ 26 rfl (yB (dQ q 18 74 H74) hc) zU26) (kH hK H75),
     fun ac W hb o q K hK => op_g (u := .bool (decide (((i.n : Int) : Int) > 16))) (wQ (dQ q 16 72 H72)) (fun hc => r_igt 3 _ _ _ rfl (yB (dQ q 19 75 H75) hc) rfl) (kH hK H76),
     fun ac W hb o q K hK => op_u (u := .bool (Oq15P7 f d a i)) rfl (r_or _ _ _ rfl (yA (dQ q 16 72 H72)) rfl (fun hb => yB (dQ q 20 76 H76) (by simp [hb]))) (kH hK H77),
     fun ac W hb o q K hK => op_u (u := .bool (Oq15P7 f d a i)) rfl (r_move _ rfl (yA (dQ q 21 77 H77))) (kH hK H78),
     fun ac W hb o q K hK => op_g (u := .bool mB) (wQ (dQ q 22 78 H78)) (fun hc => r_move _ rfl (yA (hO o 7))) (kH hK H79),
     fun ac W hb o q K hK => op_u (u := .bool ((Oq15P7 f d a i) || mB)) rfl (r_or _ _ _ rfl (yA (dQ q 22 78 H78)) rfl (fun hb => yB (dQ q 23 79 H79) (by simp [hb]))) (kH hK H80),
     fun ac W hb o q K hK => op_u (u := .bool ((Oq15P7 f d a i) || mB)) rfl (r_move _ rfl (yA (dQ q 24 80 H80))) (kH hK H81),
     fun ac W hb o q K hK => op_g (u := .slice A3 m c3) (wQ (dQ q 25 81 H81)) (fun hc => r_move _ rfl (yA (hO o 3))) (kH hK H82),
     fun ac W hb o q K hK => op_g (u := .func (.func 75) #[] #[]) (wQ (dQ q 25 81 H81)) (fun hc => r_move _ rfl (yA (hO o 8))) (kH hK H83),
     fun ac W hb o q K hK => op_call (u := .bool iL) (wQ (dQ q 25 81 H81)) 79 _ _ rfl (#[.slice A3 m c3, .func (.func 75) #[] #[]]) (fun hc => by simp [(yB (dQ q 26 82 H82) hc), (yB (dQ q 27 83 H83) hc)]) Tryd.func79 (by kernel_rfl) (by kernel_rfl) (fun hc => C3.out W hb) (fun w' hbl => hK _ _ H84.out.symm hbl),
     fun ac W hb o q K hK => op_u (u := .bool (Oq15P8 f d a i mB iL)) rfl (r_or _ _ _ rfl (yA (dQ q 25 81 H81)) rfl (fun hb => yB (dQ q 28 84 H84) (by simp [hb]))) (kH hK H85),
     fun ac W hb o q K hK => op_u (u := .bool (Oq15P8 f d a i mB iL)) rfl (r_assign _ rfl (yA (dQ q 29 85 H85))) (kR hK), trivial⟩ ?_
    intro wD hbD
    simp only [Fin, Act.put, zD, zA, zB]
    clear H56 H57 H58 H59 H60 H61 H62 H63 H64 H65 H66 H67 H68 H69 H70 H71 H72 H73 H74 H75 H76 H77 H78 H79 H80 H81 H82 H83 H84 H85
    have HBD : Hid (Below wA.heap.size wA wD) := HBAC.out.trans (hbD.mono HBAC.out.size)
    have HB1D : Hid (Below w1.heap.size w1 wD) := HB1A.out.trans (HBD.out.mono HB1A.out.size)
    have HKD : Hid (Blk wD wB.heap.size 29 (keptRow f d a k0 k1 k2 k3 k4 i s).toArray) := HKC.out.below hbD HKC.out.lt
    have HND : Hid (Blk wD w.heap.size 29 (f.row d a k0 k1 k2 k3 k4 i s).toArray) := HNC.out.below hbD HNC.out.lt
    have HBW : Hid (Below w.heap.size w wD) := HB1.out.trans (HB1D.out.mono HB1.out.size)
    clear hbD C3 HKC HNC HNA HBAC HBA
    obtain ⟨q15, hq15⟩ : ∃ x, x = (Oq15P8 f d a i mB iL) := ⟨_, rfl⟩
    rw [← hq15] at HRES ⊢
    clear hq15
    cases q15
    rotate_left
    · have HR : Hid (r = 3) := HRES.out
      clear HRES
      go_wp2
      go_ret
      exact ⟨by rw [HR.out]; rfl, HBW.out⟩
    have HFD := Hi (HF1.out.later HB1D.out)
    have CV : Hid (∀ W, Below wD.heap.size wD W → Calls Tryd.prog 77 #[.string f.p] W fun e w' => e = .returned (.bool vP) ∧ Below W.heap.size W w') := fun W hW => by
     rw [HVP.out]
     exact vstr_any f.p W (by have := HOK.out.p; unfold reachBytes at this; omega) (HE1.out.below (HB1D.out.trans (hW.mono HB1D.out.size))).tab
    have C4 : Hid (∀ W, Below wD.heap.size wD W → Calls Tryd.prog 79 #[.slice A3 m c3, .func (.func 76) #[] #[]] W fun e w' => e = .returned (.bool iO) ∧ Below W.heap.size W w') := fun W hW => by
     have h2 : Below wA.heap.size wA W := HBD.out.trans (hW.mono HBD.out.size)
     have h3 : Below w1.heap.size w1 W := HB1D.out.trans (hW.mono HB1D.out.size)
     rw [HIO.out]
     exact has_id A3 _ c3 wA.heap.size f.ids oddI 76 W (Nat.le_trans hm (by decide)) h2.size (HR3.out.below h2) (enter_fn Tryd.func76 (by kernel_rfl) (by kernel_rfl)) (fun x hx W' hW' => own4_any x W' (ids_size HOK.out x hx) (HE1.out.below (h3.trans (hW'.mono h3.size))))
    have C5 : Hid (∀ W, Below wD.heap.size wD W → Calls Tryd.prog 73 #[.slice A6 f.texts.length c6, .func (.func 80) #[] #[]] W fun e w' => e = .returned (.bool tO) ∧ Below W.heap.size W w') := fun W hW => by
     have h2 : Below wA.heap.size wA W := HBD.out.trans (hW.mono HBD.out.size)
     have h3 : Below w1.heap.size w1 W := HB1D.out.trans (hW.mono HB1D.out.size)
     rw [HTO.out]
     exact has_str A6 _ c6 wA.heap.size f.texts oddP 80 W HTN.out h2.size (HRA.out.below h2) (enter_fn Tryd.func80 (by kernel_rfl) (by kernel_rfl)) (fun x hx W' hW' => own5_any x W' (texts_size HOK.out x hx) (HE1.out.below (h3.trans (hW'.mono h3.size))))
    have CP : Hid (∀ W, Below wD.heap.size wD W → Calls Tryd.prog 40 #[.agg (f.row d a k0 k1 k2 k3 k4 i s).toArray, .agg (keptRow f d a k0 k1 k2 k3 k4 i s).toArray] W fun e w' => e = .returned (.bool pl) ∧ Below W.heap.size W w') := fun W hW => by
     rw [HPL.out]
     exact plain_any f (keptF f) d a k0 k1 k2 k3 k4 i s _ _ _ _ _ _ _ _ _ W (HFD.out.later hW) (HFD.out.later hW).kept _ _ rfl rfl
    have CR1 : Hid (∀ W, Below wD.heap.size wD W → ∀ j v, (f.row d a k0 k1 k2 k3 k4 i s)[j]? = some v → W.cell? ((⟨w.heap.size, 0, none⟩ : Addr).add j) = some v) := fun W hW => row_cells (HND.out.below hW HND.out.lt)
    have CR2 : Hid (∀ W, Below wD.heap.size wD W → ∀ j v, (keptRow f d a k0 k1 k2 k3 k4 i s)[j]? = some v → W.cell? ((⟨wB.heap.size, 0, none⟩ : Addr).add j) = some v) := fun W hW => row_cells (HKD.out.below hW HKD.out.lt)
    have CR3 : Hid (∀ W, Below wD.heap.size wD W → W.cell? ⟨wB.heap.size, 18, none⟩ = some (.slice kn.A kn.n kn.c)) := fun W hW => by
     rw [HKN.out]
     exact yC (HKD.out.below hW HKD.out.lt) 18 rfl
    have HHR : Hid (r = if (((((!vP) || iO) || tO) || (!pl)) || (((s.n : Int) : Int) != (kn.n : Int))) then 1 else 0) := HRES.out
    clear HRES HVP HIO HTO HPL HKN HFD HRA HR3 HB1A HB1D HMB HTN
    iterate 5 go_step
    --MARK87
    obtain ⟨x87, H87⟩ := xv (.pointer (some ⟨w.heap.size, 1, none⟩))
    obtain ⟨x88, H88⟩ := xv (.string f.p)
    obtain ⟨x89, H89⟩ := xv (.bool vP)
    obtain ⟨x90, H90⟩ := xv (.bool (!vP))
    obtain ⟨x91, H91⟩ := xv (.bool (!vP))
    obtain ⟨x92, H92⟩ := xv (bif ((!vP) == false) then .slice A3 m c3 else undef)
    obtain ⟨x93, H93⟩ := xv (bif ((!vP) == false) then .func (.func 76) #[] #[] else undef)
    obtain ⟨x94, H94⟩ := xv (bif ((!vP) == false) then .bool iO else undef)
    obtain ⟨x95, H95⟩ := xv (.bool ((!vP) || iO))
    obtain ⟨x96, H96⟩ := xv (.bool ((!vP) || iO))
    obtain ⟨x97, H97⟩ := xv (bif (((!vP) || iO) == false) then .slice A6 f.texts.length c6 else undef)
    obtain ⟨x98, H98⟩ := xv (bif (((!vP) || iO) == false) then .bool tO else undef)
    obtain ⟨x99, H99⟩ := xv (.bool (((!vP) || iO) || tO))
    obtain ⟨x100, H100⟩ := xv (.bool (((!vP) || iO) || tO))
    obtain ⟨x101, H101⟩ := xv (bif ((((!vP) || iO) || tO) == false) then .agg (f.row d a k0 k1 k2 k3 k4 i s).toArray else undef)
    obtain ⟨x102, H102⟩ := xv (bif ((((!vP) || iO) || tO) == false) then .agg (keptRow f d a k0 k1 k2 k3 k4 i s).toArray else undef)
    obtain ⟨x103, H103⟩ := xv (bif ((((!vP) || iO) || tO) == false) then .bool pl else undef)
    obtain ⟨x104, H104⟩ := xv (bif ((((!vP) || iO) || tO) == false) then .bool (!pl) else undef)
    obtain ⟨x105, H105⟩ := xv (.bool ((((!vP) || iO) || tO) || (!pl)))
    obtain ⟨x106, H106⟩ := xv (.bool ((((!vP) || iO) || tO) || (!pl)))
    obtain ⟨x107, H107⟩ := xv (bif (Oq15P1 vP iO tO pl) then .pointer (some ⟨w.heap.size, 18, none⟩) else undef)
    obtain ⟨x108, H108⟩ := xv (bif (Oq15P1 vP iO tO pl) then .slice s.A s.n s.c else undef)
    obtain ⟨x109, H109⟩ := xv (bif (Oq15P1 vP iO tO pl) then .int .i64 (s.n : Int) else undef)
    obtain ⟨x110, H110⟩ := xv (bif (Oq15P1 vP iO tO pl) then .pointer (some ⟨wB.heap.size, 18, none⟩) else undef)
    obtain ⟨x111, H111⟩ := xv (bif (Oq15P1 vP iO tO pl) then .slice kn.A kn.n kn.c else undef)
    obtain ⟨x112, H112⟩ := xv (bif (Oq15P1 vP iO tO pl) then .int .i64 (kn.n : Int) else undef)
    obtain ⟨x113, H113⟩ := xv (bif (Oq15P1 vP iO tO pl) then .bool (((s.n : Int) : Int) != (kn.n : Int)) else undef)
    obtain ⟨x114, H114⟩ := xv (.bool (((((!vP) || iO) || tO) || (!pl)) || (((s.n : Int) : Int) != (kn.n : Int))))
    refine wpList_seq (w0 := wD) (.inl x87 ::
     .inl x88 ::
     .inl x89 ::
     .inl x90 ::
     .inl x91 ::
     .inl x92 ::
     .inl x93 ::
     .inl x94 ::
     .inl x95 ::
     .inl x96 ::
     .inl x97 ::
     .inl x98 ::
     .inl x99 ::
     .inl x100 ::
     .inl x101 ::
     .inl x102 ::
     .inl x103 ::
     .inl x104 ::
     .inl x105 ::
     .inl x106 ::
     .inl x107 ::
     .inl x108 ::
     .inl x109 ::
     .inl x110 ::
     .inl x111 ::
     .inl x112 ::
     .inl x113 ::
     .inl x114 ::
     .inl (.bool (((((!vP) || iO) || tO) || (!pl)) || (((s.n : Int) : Int) != (kn.n : Int)))) :: []) rfl (by kernel_rfl) (by kernel_rfl) (nomono rfl) ⟨fun ac W hb o q K hK => op_u (u := .pointer (some ⟨w.heap.size, 1, none⟩)) rfl (r_field 29 _ 1 rfl (yA (hO o 1)) zU29 rfl (n := 0) isz_9 rfl) (kH hK H87),
     fun ac W hb o q K hK => op_u (u := .string f.p) rfl (r_load 9 _ rfl (yA (dQ q 0 87 H87)) (yC (HND.out.below hb HND.out.lt) 1 rfl) zU9 rfl) (kH hK H88),
     fun ac W hb o q K hK => op_call (u := .bool vP) (c := true) (want_free rfl) 77 _ _ rfl (#[.string f.p]) (fun hc => by simp [(yA (dQ q 1 88 H88))]) Tryd.func77 (by kernel_rfl) (by kernel_rfl) (fun hc => CV.out W hb) (fun w' hbl => hK _ _ H89.out.symm hbl),
     fun ac W hb o q K hK => op_u (u := .bool (!vP)) rfl (r_not _ _ rfl (yA (dQ q 2 89 H89))) (kH hK H90),
     fun ac W hb o q K hK => op_u (u := .bool (!vP)) rfl (r_move _ rfl (yA (dQ q 3 90 H90))) (kH hK H91),
     fun ac W hb o q K hK => op_g (u := .slice A3 m c3) (wQ (dQ q 4 91 H91)) (fun hc => r_move _ rfl (yA (hO o 3))) (kH hK H92),
     fun ac W hb o q K hK => op_g (u := .func (.func 76) #[] #[]) (wQ (dQ q 4 91 H91)) (fun hc => r_move _ rfl (yA (hO o 9))) (kH hK H93),
     fun ac W hb o q K hK => op_call (u := .bool iO) (wQ (dQ q 4 91 H91)) 79 _ _ rfl (#[.slice A3 m c3, .func (.func 76) #[] #[]]) (fun hc => by simp [(yB (dQ q 5 92 H92) hc), (yB (dQ q 6 93 H93) hc)]) Tryd.func79 (by kernel_rfl) (by kernel_rfl) (fun hc => C4.out W hb) (fun w' hbl => hK _ _ H94.out.symm hbl),
     fun ac W hb o q K hK => op_u (u := .bool ((!vP) || iO)) rfl (r_or _ _ _ rfl (yA (dQ q 4 91 H91)) rfl (fun hb => yB (dQ q 7 94 H94) (by simp [hb]))) (kH hK H95),
     fun ac W hb o q K hK => op_u (u := .bool ((!vP) || iO)) rfl (r_move _ rfl (yA (dQ q 8 95 H95))) (kH hK H96),
     fun ac W hb o q K hK => op_g (u := .slice A6 f.texts.length c6) (wQ (dQ q 9 96 H96)) (fun hc => r_move _ rfl (yA (hO o 6))) (kH hK H97),
     fun ac W hb o q K hK => op_call (u := .bool tO) (wQ (dQ q 9 96 H96)) 73 _ _ rfl (#[.slice A6 f.texts.length c6, .func (.func 80) #[] #[]]) (fun hc => by simp [(yB (dQ q 10 97 H97) hc), (show ac.eval (.func 80) = .func (.func 80) #[] #[] from rfl)]) Tryd.func73 (by kernel_rfl) (by kernel_rfl) (fun hc => C5.out W hb) (fun w' hbl => hK _ _ H98.out.symm hbl),
     fun ac W hb o q K hK => op_u (u := .bool (((!vP) || iO) || tO)) rfl (r_or _ _ _ rfl (yA (dQ q 9 96 H96)) rfl (fun hb => yB (dQ q 11 98 H98) (by simp [hb]))) (kH hK H99),
     fun ac W hb o q K hK => op_u (u := .bool (((!vP) || iO) || tO)) rfl (r_move _ rfl (yA (dQ q 12 99 H99))) (kH hK H100),
     fun ac W hb o q K hK => op_g (u := .agg (f.row d a k0 k1 k2 k3 k4 i s).toArray) (wQ (dQ q 13 100 H100)) (fun hc => r_load_row 29 _ rfl (yA (hO o 1)) (f.row d a k0 k1 k2 k3 k4 i s) (CR1.out W hb) zU29 rfl isz_29) (kH hK H101),
     fun ac W hb o q K hK => op_g (u := .agg (keptRow f d a k0 k1 k2 k3 k4 i s).toArray) (wQ (dQ q 13 100 H100)) (fun hc => r_load_row 29 _ rfl (yA (hO o 10)) (keptRow f d a k0 k1 k2 k3 k4 i s) (CR2.out W hb) zU29 rfl isz_29) (kH hK H102),
     fun ac W hb o q K hK => op_call (u := .bool pl) (wQ (dQ q 13 100 H100)) 40 _ _ rfl (#[.agg (f.row d a k0 k1 k2 k3 k4 i s).toArray, .agg (keptRow f d a k0 k1 k2 k3 k4 i s).toArray]) (fun hc => by simp [(yB (dQ q 14 101 H101) hc), (yB (dQ q 15 102 H102) hc)]) Tryd.func40 (by kernel_rfl) (by kernel_rfl) (fun hc => CP.out W hb) (fun w' hbl => hK _ _ H103.out.symm hbl),
     fun ac W hb o q K hK => op_g (u := .bool (!pl)) (wQ (dQ q 13 100 H100)) (fun hc => r_not _ _ rfl (yB (dQ q 16 103 H103) hc)) (kH hK H104),
     fun ac W hb o q K hK => op_u (u := .bool ((((!vP) || iO) || tO) || (!pl))) rfl (r_or _ _ _ rfl (yA (dQ q 13 100 H100)) rfl (fun hb => yB (dQ q 17 104 H104) (by simp [hb]))) (kH hK H105),
     fun ac W hb o q K hK => op_u (u := .bool ((((!vP) || iO) || tO) || (!pl))) rfl (r_move _ rfl (yA (dQ q 18 105 H105))) (kH hK H106),
     fun ac W hb o q K hK => op_g (u := .pointer (some ⟨w.heap.size, 18, none⟩)) (wQ (dQ q 19 106 H106)) (fun hc => r_field 29 _ 14 rfl (yA (hO o 1)) zU29 rfl (n := 0) isz_27 rfl) (kH hK H107),
     fun ac W hb o q K hK => op_g (u := .slice s.A s.n s.c) (wQ (dQ q 19 106 H106)) (fun hc => r_load 27 _ rfl (yB (dQ q 20 107 H107) hc) (yC (HND.out.below hb HND.out.lt) 18 rfl) zU27 rfl) (kH hK H108),
     fun ac W hb o q K hK => op_g (u := .int .i64 (s.n : Int)) (wQ (dQ q 19 106 H106)) (fun hc => r_len #[] #[] _ 27 rfl (yB (dQ q 21 108 H108) hc) zU27) (kH hK H109),
     fun ac W hb o q K hK => op_g (u := .pointer (some ⟨wB.heap.size, 18, none⟩)) (wQ (dQ q 19 106 H106)) (fun hc => r_field 29 _ 14 rfl (yA (hO o 10)) zU29 rfl (n := 0) isz_27 rfl) (kH hK H110),
     fun ac W hb o q K hK => op_g (u := .slice kn.A kn.n kn.c) (wQ (dQ q 19 106 H106)) (fun hc => r_load 27 _ rfl (yB (dQ q 23 110 H110) hc) (CR3.out W hb) zU27 rfl) (kH hK H111),
     fun ac W hb o q K hK => op_g (u := .int .i64 (kn.n : Int)) (wQ (dQ q 19 106 H106)) (fun hc => r_len #[] #[] _ 27 rfl (yB (dQ q 24 111 H111) hc) zU27) (kH hK H112),
     fun ac W hb o q K hK => op_g (u := .bool (((s.n : Int) : Int) != (kn.n : Int))) (wQ (dQ q 19 106 H106)) (fun hc => r_ine 3 _ _ _ rfl (yB (dQ q 22 109 H109) hc) (yB (dQ q 25 112 H112) hc)) (kH hK H113),
     fun ac W hb o q K hK => op_u (u := .bool (((((!vP) || iO) || tO) || (!pl)) || (((s.n : Int) : Int) != (kn.n : Int)))) rfl (r_or _ _ _ rfl (yA (dQ q 19 106 H106)) rfl (fun hb => yB (dQ q 26 113 H113) (by simp [hb]))) (kH hK H114),
     fun ac W hb o q K hK => op_u (u := .bool (((((!vP) || iO) || tO) || (!pl)) || (((s.n : Int) : Int) != (kn.n : Int)))) rfl (r_assign _ rfl (yA (dQ q 27 114 H114))) (kR hK), trivial⟩ ?_
    intro wE hbE
    simp only [Fin, Act.put, zD, zA, zB]
    clear H87 H88 H89 H90 H91 H92 H93 H94 H95 H96 H97 H98 H99 H100 H101 H102 H103 H104 H105 H106 H107 H108 H109 H110 H111 H112 H113 H114
    have HBE : Hid (Below w.heap.size w wE) := HBW.out.trans (hbE.mono HBW.out.size)
    clear hbE CV C4 C5 CP CR1 CR2 CR3 HND HKD
    obtain ⟨q17, hq17⟩ : ∃ x, x = (((((!vP) || iO) || tO) || (!pl)) || (((s.n : Int) : Int) != (kn.n : Int))) := ⟨_, rfl⟩
    rw [← hq17] at HHR ⊢
    clear hq17
    cases q17
    · have HR : Hid (r = 0) := HHR.out
      clear HHR
      go_wp2
      go_ret
      exact ⟨by rw [HR.out]; rfl, HBE.out⟩
    · have HR : Hid (r = 1) := HHR.out
      clear HHR
      go_wp2
      go_ret
      exact ⟨by rw [HR.out]; rfl, HBE.out⟩
theorem own_any {lo : Option Nat} (f : OpF) (d a k0 k1 k2 k3 k4 i s : Sl) {len : Nat} {xs : List Value} (w : World) (h : FAt w lo f d a k0 k1 k2 k3 k4 i) (hs : SlAt w lo 29 19 296 s len xs) (ok : f.Ok) (E : Env w) (hsum : f.texts.length * 16 ≤ 140737488355328) (hids : (f.I.length + f.L.length) * 32 ≤ 140737488355328) (cs : Array Value) (hcs : cs = (f.row d a k0 k1 k2 k3 k4 i s).toArray) :
 Calls Tryd.prog 52 #[.agg cs] w fun e w' => e = .returned (.int .i64 (ownE f s.n)) ∧ Below w.heap.size w w' :=
 own_of f d a k0 k1 k2 k3 k4 i s w h hs ok E hsum hids (fun ht W => kept_any f d a k0 k1 k2 k3 k4 i s W ht) cs hcs

mutual
def OpC.allE : OpC → Int
 | .mk f S => if ownE f S.length ≠ 0 then ownE f S.length else allL f.t S
def allL (t : Int) : List OpC → Int
 | [] => 0
 | x :: r => if mayN x.f.t t = false then 110 else if x.allE ≠ 0 then x.allE else allL t r
end
def OpC.rightE (x : OpC) : Int := if x.allE ≠ 0 then x.allE else if (decide ((x.depth : Int) > 8) || decide ((x.parts : Int) > 1024)) || decide ((x.multis : Int) > 1024) then 3 else 0
theorem bulkS_len (L : List ByteArray) : L.length ≤ bulkS L := by
 unfold bulkS
 induction L with
 | nil => exact Nat.le_refl _
 | cons x r ih => rw [List.map_cons, List.sum_cons, zM]; omega
theorem bulkI_len (L : List (ByteArray × ByteArray)) : L.length ≤ bulkI L := by
 unfold bulkI
 induction L with
 | nil => exact Nat.le_refl _
 | cons x r ih => rw [List.map_cons, List.sum_cons, zM]; omega
theorem bulkA_len (L : List AclT) : L.length ≤ bulkA L := by
 unfold bulkA
 induction L with
 | nil => exact Nat.le_refl _
 | cons x r ih => rw [List.map_cons, List.sum_cons, zM]; omega
theorem OpF.sums {f : OpF} (h : f.bulk ≤ 1000000000) : f.texts.length * 16 ≤ 140737488355328 ∧ (f.I.length + f.L.length) * 32 ≤ 140737488355328 := by
 have h0 := bulkS_len f.K0
 have h1 := bulkS_len f.K1
 have h2 := bulkS_len f.K2
 have h3 := bulkS_len f.K3
 have h4 := bulkS_len f.K4
 have h5 := bulkI_len f.I
 have h6 := bulkA_len f.L
 unfold OpF.bulk at h
 unfold OpF.texts
 simp only [zG]
 constructor <;> omega
theorem bulkL_mem {S : List OpC} {x : OpC} (h : x ∈ S) : x.bulk ≤ bulkL S := by
 induction S with
 | nil => cases h
 | cons y r ih =>
   rw [bulkL]
   rcases zH.1 h with rfl | h
   · omega
   · have := ih h; omega
theorem At.c0 {w : World} {lo : Option Nat} {x : OpC} {cs : List Value} (h : At w lo x cs) : cs[0]? = some (.int .i32 x.f.t) := by
 cases h
 rfl
theorem opAll_any {w0 : World} {lo : Option Nat} {x : OpC} {xs : List Value} (h : At w0 lo x xs) (E : Env w0) : ∀ (w : World), x.bulk ≤ 1000000000 → Below w0.heap.size w0 w →
 Calls Tryd.prog 26 #[.agg xs.toArray] w fun e w' => e = .returned (.int .i64 x.allE) ∧ Below w.heap.size w w' := by
 induction h with
 | mk f d a k0 k1 k2 k3 k4 i s Q ok hd ha hk0 hk1 hk2 hk3 hk4 hi hs hQ ih =>
   intro w hn hb0
   obtain ⟨cs, hcs⟩ : ∃ cs : Array Value, cs = (f.row d a k0 k1 k2 k3 k4 i s).toArray := ⟨_, rfl⟩
   rw [← hcs]
   obtain ⟨w1, hw1⟩ := xa w cs 29
   have hz1 : w1.heap.size = w.heap.size + 1 := by rw [← hw1]; simp
   have HB1 := Hi (zV hw1)
   have HN1 := Hi (zW hw1)
   have HC0 : Hid (cs[0]? = some (.int .i32 f.t)) := by unfold Hid; rw [hcs]; rfl
   have HC18 : Hid (cs[18]? = some (.slice s.A s.n s.c)) := by unfold Hid; rw [hcs]; rfl
   have HI19 : Hid ((Tryd.prog.info? 29).map (·.size) = some cs.size) := by unfold Hid; rw [hcs]; exact isz_29
   have HR : Hid (Reads w w0.heap.size 19 s.A s.n (Q.flatMap Prod.snd)) := hs.reads.below hb0
   have HQA : Hid (∀ q ∈ Q, At w0 lo q.1 q.2) := hQ
   have HSL : Hid (Q.length = s.n) := hs.len
   have HIH : Hid (∀ q ∈ Q, ∀ (W : World), q.1.bulk ≤ 1000000000 → Below w0.heap.size w0 W → Calls Tryd.prog 26 #[.agg q.2.toArray] W fun e w' => e = .returned (.int .i64 q.1.allE) ∧ Below W.heap.size W w') := ih
   have HB0 := Hi hb0
   have hlen : s.n ≤ 4611686018427387904 := hs.bd (by decide)
   obtain ⟨S, hS⟩ : ∃ S, S = Q.map Prod.fst := ⟨_, rfl⟩
   have HSQ := Hi hS
   rw [← hS] at hn ⊢
   have hfb : f.bulk + bulkL S ≤ 1000000000 := by rwa [OpC.bulk] at hn
   have HNL : Hid (bulkL S ≤ 1000000000) := by unfold Hid; omega
   have hfs := OpF.sums (f := f) (by omega)
   have HOWN : Hid (∀ W, Below w0.heap.size w0 W → Calls Tryd.prog 52 #[.agg cs] W fun e w' => e = .returned (.int .i64 (ownE f s.n)) ∧ Below W.heap.size W w') := fun W hW =>
    own_any f d a k0 k1 k2 k3 k4 i s W ((⟨hd, ha, hk0, hk1, hk2, hk3, hk4, hi⟩ : FAt w0 lo f d a k0 k1 k2 k3 k4 i).later hW) (hs.later hW) ok (E.below hW) hfs.1 hfs.2 cs hcs
   have c0 := yC HN1.out 0 HC0.out
   have c18 := yC HN1.out 18 HC18.out
   rw [OpC.allE, show S.length = s.n by rw [hS, List.length_map, hs.len]]
   clear hcs ih hs hd ha hk0 hk1 hk2 hk3 hk4 hi hQ ok hb0 hS hn hfb hfs E
   obtain ⟨A, N, c⟩ := s
   dsimp only at HR HSL hlen HC18 c18 HOWN
   dsimp only
   generalize ownE f N = oe at HOWN ⊢
   have HBO : Hid (Below w0.heap.size w0 w1) := HB0.out.trans (HB1.out.mono HB0.out.size)
   by_cases ho : oe = 0
   rotate_left
   · rw [if_pos ho]
     have hob : (oe != 0) = true := by simpa using ho
     clear ho c18
     go_enter Tryd.func26, Tryd.ntmps26
     go_wp2_with (first
      | (refine wpList_load_row rfl 29 (.tmp 1) rfl w.heap.size rfl 29 _ _ _ HN1.out zU29 rfl HI19.out ?_)
      | (go_at_call 52
         refine (HOWN.out _ HBO.out).mono ?_
         rintro e w3 ⟨rfl, hb⟩
         have HB3 : Hid (Below w.heap.size w w3) := HB1.out.trans (hb.mono HB1.out.size)
         clear hb))
     go_ret
     exact ⟨rfl, HB3.out⟩
   rw [if_neg (by simpa using ho)]
   subst ho
   go_enter Tryd.func26, Tryd.ntmps26
   go_wp2_with (first
    | (refine wpList_load_row rfl 29 (.tmp 1) rfl w.heap.size rfl 29 _ _ _ HN1.out zU29 rfl HI19.out ?_)
    | (go_at_call 52
       refine (HOWN.out _ HBO.out).mono ?_
       rintro e w2 ⟨rfl, hb⟩
       have HB2 : Hid (Below w1.heap.size w1 w2) := hb
       have d18 := yC (HN1.out.below hb HN1.out.lt) 18 HC18.out
       clear hb c0 c18))
   clear d18
   go_loopw [15] (fun vi wr => ∃ (k : Nat), k ≤ N ∧ vi = .int .i64 (k : Int) ∧ Hid (allL f.t S = allL f.t (S.drop k)) ∧ Hid (Below w1.heap.size w1 wr)) (fun vi _ => N - (intOf vi).toNat)
   case atStart => exact ⟨0, by omega, by go_num, (by unfold Hid; simp), HB2.out⟩
   case round =>
    clear HB2
    obtain ⟨k, hk, rfl, HK, HW⟩ := hrel
    by_cases hkn : k < N
    · have hkQ : k < Q.length := by rw [HSL.out]; exact hkn
      have hbw : Below w.heap.size w wr := HB1.out.trans (HW.out.mono HB1.out.size)
      obtain ⟨ad, hA, hrow⟩ := rowAt (HR.out.below (hbw.mono HB0.out.size)) HQA.out hkQ HSL.out
      subst hA
      have hdrop : S.drop k = (Q[k]).1 :: S.drop (k + 1) := by
       rw [HSQ.out, List.drop_eq_getElem_cons (by simpa using hkQ)]
       simp
      have hmem : (Q[k]).1 ∈ S := by rw [HSQ.out]; exact List.mem_map.2 ⟨_, List.getElem_mem _, rfl⟩
      have hih := HIH.out (Q[k]) (List.getElem_mem _)
      have hx0 := (HQA.out (Q[k]) (List.getElem_mem _)).c0
      obtain ⟨⟨x, xc⟩, hx⟩ : ∃ x, x = Q[k] := ⟨_, rfl⟩
      rw [← hx] at hrow hdrop hih hmem hx0
      dsimp only at hrow hdrop hih hmem hx0
      have hxb := bulkL_mem hmem
      have hnl := HNL.out
      have hk' := HK.out
      rw [hdrop, allL] at hk'
      have hih2 : ∀ W, Below wr.heap.size wr W → Calls Tryd.prog 26 #[.agg xc.toArray] W fun e w' => e = .returned (.int .i64 x.allE) ∧ Below W.heap.size W w' := fun W hW =>
       hih W (by omega) ((HB0.out.trans (hbw.mono HB0.out.size)).trans (hW.mono (Nat.le_trans HB0.out.size hbw.size)))
      have HROW := Hi hrow
      have HIK := Hi hih2
      obtain ⟨w2, hw2⟩ := xa wr (xc.toArray) 29
      have hn2 := zW hw2
      have HB2 := Hi (zV hw2)
      have cx0 := yC hn2 0 (by simpa using hx0)
      have HN1w : Hid (Blk wr w.heap.size 29 cs) := HN1.out.below HW.out HN1.out.lt
      have cr0 := yC (HN1w.out.below HB2.out HN1w.out.lt) 0 HC0.out
      have HN2 := Hi hn2
      have HM : Hid (∀ W, Calls Tryd.prog 53 #[.int .i32 x.f.t, .int .i32 f.t] W fun e w' => e = .returned (.bool (mayN x.f.t f.t)) ∧ w' = W) := fun W => may_any _ _ W
      generalize mayN x.f.t f.t = mb at HM hk'
      generalize x.f.t = xt at HM cx0
      generalize x.allE = xe at HIK hk'
      clear hx hrow hdrop hbw hkQ hih hih2 hmem hn2 hx0 hxb hnl
      cases mb
      · have HK2 : Hid (allL f.t S = 110) := hk'
        clear hk'
        go_wp2_with (first
         | (refine wpList_load_at (by rfl) 29 (.tmp 17) rfl (ad.add (k * 19)) rfl xc _ HROW.out.cells zU29 rfl HROW.out.info ?_)
         | (refine wpList_newrow rfl rfl 29 rfl 5 rfl (.tmp 18) rfl rfl xc.toArray (fun _ => rfl) (show 5 < 31 by decide) HROW.out.zero HROW.out.infoA HROW.out.one ?_
            rw [hw2])
         | (go_at_call 53
            refine (HM.out _).mono ?_
            rintro e w3 ⟨rfl, he⟩
            obtain rfl := he.symm))
        go_ret
        rw [HK2.out]
        exact ⟨rfl, (HB1.out.trans (HW.out.mono HB1.out.size)).trans (HB2.out.mono (Nat.le_trans HB1.out.size HW.out.size))⟩
      · rw [if_neg (by decide)] at hk'
        by_cases hxe : xe = 0
        · rw [if_neg (by simpa using hxe)] at hk'
          have HK2 := Hi hk'
          subst hxe
          clear hk' HK
          go_wp2_with (first
           | (refine wpList_load_at (by rfl) 29 (.tmp 17) rfl (ad.add (k * 19)) rfl xc _ HROW.out.cells zU29 rfl HROW.out.info ?_)
           | (refine wpList_newrow rfl rfl 29 rfl 5 rfl (.tmp 18) rfl rfl xc.toArray (fun _ => rfl) (show 5 < 31 by decide) HROW.out.zero HROW.out.infoA HROW.out.one ?_
              rw [hw2])
           | (go_at_call 53
              refine (HM.out _).mono ?_
              rintro e w3 ⟨rfl, he⟩
              obtain rfl := he.symm)
           | (refine wpList_load_row rfl 29 (.tmp 5) rfl wr.heap.size rfl 29 _ _ _ HN2.out zU29 rfl HROW.out.infoA ?_)
           | (go_at_call 26
              refine (HIK.out _ HB2.out).mono ?_
              rintro e w3 ⟨rfl, hb⟩
              have HW3 : Hid (Below w1.heap.size w1 w3) := (HW.out.trans (HB2.out.mono HW.out.size)).trans (hb.mono (Nat.le_trans HW.out.size HB2.out.size))
              clear hb))
          go_roundw
          case rel => exact ⟨k + 1, by omega, by go_num, HK2.out, HW3⟩
          case measure => simp [intOf]; omega
        · rw [if_pos hxe] at hk'
          have HK2 := Hi hk'
          have hxb : (xe != 0) = true := by simpa using hxe
          clear hk' HK hxe
          go_wp2_with (first
           | (refine wpList_load_at (by rfl) 29 (.tmp 17) rfl (ad.add (k * 19)) rfl xc _ HROW.out.cells zU29 rfl HROW.out.info ?_)
           | (refine wpList_newrow rfl rfl 29 rfl 5 rfl (.tmp 18) rfl rfl xc.toArray (fun _ => rfl) (show 5 < 31 by decide) HROW.out.zero HROW.out.infoA HROW.out.one ?_
              rw [hw2])
           | (go_at_call 53
              refine (HM.out _).mono ?_
              rintro e w3 ⟨rfl, he⟩
              obtain rfl := he.symm)
           | (refine wpList_load_row rfl 29 (.tmp 5) rfl wr.heap.size rfl 29 _ _ _ HN2.out zU29 rfl HROW.out.infoA ?_)
           | (go_at_call 26
              refine (HIK.out _ HB2.out).mono ?_
              rintro e w3 ⟨rfl, hb⟩
              have HW3 : Hid (Below w1.heap.size w1 w3) := (HW.out.trans (HB2.out.mono HW.out.size)).trans (hb.mono (Nat.le_trans HW.out.size HB2.out.size))
              clear hb))
          go_ret
          rw [HK2.out]
          exact ⟨rfl, HB1.out.trans (HW3.out.mono HB1.out.size)⟩
    · have hkk : k = N := by omega
      subst hkk
      have HK2 : Hid (allL f.t S = 0) := by
       have h := HK.out
       rwa [List.drop_eq_nil_of_le (by rw [HSQ.out, List.length_map, HSL.out]; exact Nat.le_refl _), allL] at h
      have HBW : Hid (Below w.heap.size w wr) := HB1.out.trans (HW.out.mono HB1.out.size)
      clear HK
      go_wp2
      go_ret
      rw [HK2.out]
      exact ⟨rfl, HBW.out⟩

theorem right_of {w : World} {lo : Option Nat} {x : OpC} {xs : List Value} (h : At w lo x xs) (hb : x.bulk ≤ 1000000000) (HA : ∀ W, Below w.heap.size w W → Calls Tryd.prog 26 #[.agg xs.toArray] W fun e w' => e = .returned (.int .i64 x.allE) ∧ Below W.heap.size W w') :
 Calls Tryd.prog 11 #[.agg xs.toArray] w fun e w' => e = .returned (.int .i64 x.rightE) ∧ Below w.heap.size w w' := by
 have HALL := Hi HA
 have HCO : Hid (∀ W, Below w.heap.size w W → Calls Tryd.prog 16 #[.agg xs.toArray] W fun e w' => e = .returned (countV x) ∧ Below W.heap.size W w') := fun W hW => counts_any h W (Nat.le_trans x.nodes_bulk hb) hW
 have hcl := x.counts_le
 have hnb := x.nodes_bulk
 unfold OpC.rightE
 unfold countV at HCO
 obtain ⟨cs, hcs⟩ : ∃ cs : Array Value, cs = xs.toArray := ⟨_, rfl⟩
 have HI19 : Hid ((Tryd.prog.info? 29).map (·.size) = some cs.size) := by unfold Hid; rw [hcs, zO, h.len]; exact isz_29
 rw [← hcs] at HALL HCO ⊢
 obtain ⟨w1, hw1⟩ := xa w cs 29
 have HB1 := Hi (zV hw1)
 have HN1 := Hi (zW hw1)
 generalize x.allE = ae at HALL ⊢
 generalize x.parts = p at HCO hcl ⊢
 generalize x.multis = m at HCO hcl ⊢
 generalize x.depth = d at HCO hcl ⊢
 have hp : p ≤ 1000000000 := by omega
 have hm : m ≤ 1000000000 := by omega
 have hd : d ≤ 1000000000 := by omega
 clear hcl hnb h hb hcs HA
 by_cases ho : ae = 0
 rotate_left
 · rw [if_pos ho]
   have hob : (ae != 0) = true := by simpa using ho
   clear ho HCO
   go_enter Tryd.func11, Tryd.ntmps11
   go_wp2_with (first
    | (refine wpList_load_row rfl 29 (.tmp 1) rfl w.heap.size rfl 29 _ _ _ HN1.out zU29 rfl HI19.out ?_)
    | (go_at_call 26
       refine (HALL.out _ HB1.out).mono ?_
       rintro e w3 ⟨rfl, hb⟩
       have HB3 : Hid (Below w.heap.size w w3) := HB1.out.trans (hb.mono HB1.out.size)
       clear hb))
   go_ret
   exact ⟨rfl, HB3.out⟩
 rw [if_neg (by simpa using ho)]
 subst ho
 rcases Nat.lt_or_ge 8 d with h1 | h1
 case' inl => have hr : ((decide ((d : Int) > 8) || decide ((p : Int) > 1024)) || decide ((m : Int) > 1024)) = true := by simp; omega
 case' inr =>
  rcases Nat.lt_or_ge 1024 p with h2 | h2
  case' inl => have hr : ((decide ((d : Int) > 8) || decide ((p : Int) > 1024)) || decide ((m : Int) > 1024)) = true := by simp; omega
  case' inr =>
   rcases Nat.lt_or_ge 1024 m with h3 | h3
   case' inl => have hr : ((decide ((d : Int) > 8) || decide ((p : Int) > 1024)) || decide ((m : Int) > 1024)) = true := by simp; omega
   case' inr => have hr : ((decide ((d : Int) > 8) || decide ((p : Int) > 1024)) || decide ((m : Int) > 1024)) = false := by simp; omega
 all_goals
  rw [hr]
  clear hr
  go_enter Tryd.func11, Tryd.ntmps11
  go_wp2_with (first
   | (refine wpList_load_row rfl 29 (.tmp 1) rfl w.heap.size rfl 29 _ _ _ HN1.out zU29 rfl HI19.out ?_)
   | (go_at_call 26
      refine (HALL.out _ HB1.out).mono ?_
      rintro e w3 ⟨rfl, hb⟩
      have HB3 : Hid (Below w.heap.size w w3) := HB1.out.trans (hb.mono HB1.out.size)
      have HN3 : Hid (Blk w3 w.heap.size 29 cs) := HN1.out.below hb HN1.out.lt
      clear hb)
   | (refine wpList_load_row rfl 29 (.tmp 1) rfl w.heap.size rfl 29 _ _ _ HN3.out zU29 rfl HI19.out ?_)
   | (go_at_call 16
      refine (HCO.out _ HB3.out).mono ?_
      rintro e w4 ⟨rfl, hb⟩
      have HB4 : Hid (Below w.heap.size w w4) := HB3.out.trans (hb.mono HB3.out.size)
      clear hb))
  go_ret
  exact ⟨rfl, HB4.out⟩
theorem right_any {w : World} {lo : Option Nat} {x : OpC} {xs : List Value} (h : At w lo x xs) (E : Env w) (hb : x.bulk ≤ 1000000000) :
 Calls Tryd.prog 11 #[.agg xs.toArray] w fun e w' => e = .returned (.int .i64 x.rightE) ∧ Below w.heap.size w w' := right_of h hb fun W hW => opAll_any h E W hb hW
def Listed (w : World) (xs : List OpC) (e : Ending) (w' : World) : Prop :=
 ∃ A c R base, e = .returned (.slice A R.length c) ∧ R.map Prod.fst = xs ∧ w.heap.size ≤ base ∧ FlatSt base (.slice A R.length c) R w' ∧ Below w.heap.size w w'
def OpC.flatten (x : OpC) : List OpC := if x.rightE ≠ 0 then [] else x.flat
theorem flatten_of {w : World} {lo : Option Nat} {x : OpC} {xs : List Value} (h : At w lo x xs) (hn : x.nodes ≤ 1000000) (HR0 : ∀ W, Below w.heap.size w W → Calls Tryd.prog 11 #[.agg xs.toArray] W fun e w' => e = .returned (.int .i64 x.rightE) ∧ Below W.heap.size W w') :
 Calls Tryd.prog 15 #[.agg xs.toArray] w (Listed w x.flatten) := by
 have HR := Hi HR0
 have HF : Hid (∀ W, Below w.heap.size w W → Calls Tryd.prog 34 #[.slice none 0 0, .agg xs.toArray] W (Flatted W.heap.size W [] x.flat)) := fun W hW => flat_any (h.later hW) W.heap.size W none 0 0 [] zR zT (FlatSt.nil W) rfl (by omega)
 unfold OpC.flatten
 obtain ⟨cs, hcs⟩ : ∃ cs : Array Value, cs = xs.toArray := ⟨_, rfl⟩
 have HI19 : Hid ((Tryd.prog.info? 29).map (·.size) = some cs.size) := by unfold Hid; rw [hcs, zO, h.len]; exact isz_29
 rw [← hcs] at HR HF ⊢
 obtain ⟨w1, hw1⟩ := xa w cs 29
 have HB1 := Hi (zV hw1)
 have HN1 := Hi (zW hw1)
 generalize x.rightE = re at HR ⊢
 clear h hn hcs HR0
 by_cases ho : re = 0
 rotate_left
 · rw [if_pos ho]
   have hob : (re != 0) = true := by simpa using ho
   clear ho HF
   go_enter Tryd.func15, Tryd.ntmps15
   go_wp2_with (first
    | (refine wpList_load_row rfl 29 (.tmp 1) rfl w.heap.size rfl 29 _ _ _ HN1.out zU29 rfl HI19.out ?_)
    | (go_at_call 11
       refine (HR.out _ HB1.out).mono ?_
       rintro e w3 ⟨rfl, hb⟩
       have HB3 : Hid (Below w.heap.size w w3) := HB1.out.trans (hb.mono HB1.out.size)
       clear hb))
   go_ret
   exact ⟨none, 0, [], _, rfl, rfl, HB3.out.size, FlatSt.nil _, HB3.out⟩
 rw [if_neg (by simpa using ho)]
 subst ho
 go_enter Tryd.func15, Tryd.ntmps15
 go_wp2_with (first
  | (refine wpList_load_row rfl 29 (.tmp 1) rfl w.heap.size rfl 29 _ _ _ HN1.out zU29 rfl HI19.out ?_)
  | (go_at_call 11
     refine (HR.out _ HB1.out).mono ?_
     rintro e w3 ⟨rfl, hb⟩
     have HB3 : Hid (Below w.heap.size w w3) := HB1.out.trans (hb.mono HB1.out.size)
     have HN3 : Hid (Blk w3 w.heap.size 29 cs) := HN1.out.below hb HN1.out.lt
     clear hb)
  | (refine wpList_load_row rfl 29 (.tmp 1) rfl w.heap.size rfl 29 _ _ _ HN3.out zU29 rfl HI19.out ?_)
  | (go_at_call 34
     refine (HF.out _ HB3.out).mono ?_
     rintro e w4 ⟨A', c', R', rfl, hR, hF, hb⟩
     have HRR := Hi hR
     have HFF := Hi hF
     have HB4 := Hi hb
     clear hR hF hb))
 go_ret
 exact ⟨A', c', R', _, rfl, HRR.out, HB3.out.size, HFF.out, HB3.out.trans (HB4.out.mono HB3.out.size)⟩
theorem flatten_any {w : World} {lo : Option Nat} {x : OpC} {xs : List Value} (h : At w lo x xs) (E : Env w) (hb : x.bulk ≤ 1000000000) (hn : x.nodes ≤ 1000000) :
 Calls Tryd.prog 15 #[.agg xs.toArray] w (Listed w x.flatten) := flatten_of h hn fun W hW => right_any (h.later hW) (E.below hW) hb
end Go.Proofs.YtpjjnmdfgcfnmaaDoor
