/- ops.own: the error of an operation's own fields. (printed by gen_p14.py) -/
import Derived.Test.YtpjjnmdfgcfnmaaGreatDoorOq12
import Derived.Test.YtpjjnmdfgcfnmaaGreatDoorOq13
import Derived.Test.YtpjjnmdfgcfnmaaGreatDoorJy
set_option linter.unusedVariables false
set_option linter.unusedSimpArgs false
namespace Go.Proofs.YtpjjnmdfgcfnmaaGreatDoor
open Go.RowKit

def validS (s : ByteArray) : Bool := Lib.validD s.data.toList
def longI (x : ByteArray × ByteArray) : Bool := decide ((x.1.size : Int) > 256) || decide ((x.2.size : Int) > 256)
def oddI (x : ByteArray × ByteArray) : Bool := !validS x.1 || !validS x.2
def longP (s : ByteArray) : Bool := decide ((s.size : Int) > 4096)
def oddP (s : ByteArray) : Bool := !validS s
/-- the identities that are told: its own, those of its permissions -/
def OpF.ids (f : OpF) : List (ByteArray × ByteArray) := f.I ++ f.L.map fun x => x.2
def OpF.texts (f : OpF) : List ByteArray := f.K0 ++ (f.K1 ++ (f.K2 ++ (f.K3 ++ f.K4)))
def manyB (f : OpF) (n : Nat) : Bool := ((f.lists.any fun l => decide ((l.length : Int) > 1024)) || f.texts.any longP) || ((f.t == 22) && decide ((n : Int) > 1024))
def bigB (f : OpF) (n : Nat) : Bool := ((((decide ((f.p.size : Int) > 4096) || decide ((f.l.length : Int) > 1048575)) || decide ((f.L.length : Int) > 16)) || decide ((f.I.length : Int) > 16)) || manyB f n) || f.ids.any longI
def oddB (f : OpF) (n : Nat) : Bool := ((((!validS f.p) || f.ids.any oddI) || f.texts.any oddP) || (!plainB f (keptF f))) || ((n : Int) != ((if f.t ∈ tS then n else 0 : Nat) : Int))
/-- the error of an operation's own fields -/
def ownE (f : OpF) (n : Nat) : Int := if kindN f.t = 0 then 110 else if bigB f n then 3 else if oddB f n then 1 else 0
theorem kind_types {t : Int} (h : kindN t ≠ 0) : t ∈ ownTypes := by
  unfold kindN at h
  rcases hf : kindL.find? (fun x => x.1 == t) with _ | x
  · rw [hf] at h
    exact absurd rfl h
  · have h1 := List.mem_of_find?_eq_some hf
    have h2 := List.find?_some hf
    have h3 : x.1 = t := by simpa using h2
    have h4 : ∀ x ∈ kindL, x.1 ∈ ownTypes := by decide
    rw [← h3]
    exact h4 x h1
/-- what an operation's own identities and texts are good for -/
theorem ids_size {f : OpF} (ok : f.Ok) : ∀ x ∈ f.ids, x.1.size ≤ reachBytes ∧ x.2.size ≤ reachBytes := fun x hx => by
  rcases List.mem_append.1 hx with h | h
  · exact ok.ids x h
  · obtain ⟨y, hy, rfl⟩ := List.mem_map.1 h
    exact ⟨(ok.acl y hy).2.1, (ok.acl y hy).2.2⟩
theorem texts_size {f : OpF} (ok : f.Ok) : ∀ x ∈ f.texts, x.size ≤ reachBytes := fun x hx => by
  unfold OpF.texts at hx
  simp only [List.mem_append] at hx
  rcases hx with h | h | h | h | h
  · exact ok.k0 x h
  · exact ok.k1 x h
  · exact ok.k2 x h
  · exact ok.k3 x h
  · exact ok.k4 x h
/-! the functions that are handed over -/
set_option maxRecDepth 100000 in
theorem own1_any (A : Option Addr) (n c : Nat) (w : World) (hn : n ≤ 4611686018427387904) : Calls Tryz.prog 106 #[.slice A n c] w fun e w' => e = .returned (.bool (decide ((n : Int) > 1024))) ∧ Below w.heap.size w w' := by
  go_enter Tryz.func106, Tryz.ntmps106
  go_wp2
  go_ret
  exact ⟨rfl, Below.refl _ _⟩
set_option maxRecDepth 100000 in
theorem own2_any (s : ByteArray) (w : World) : Calls Tryz.prog 108 #[.string s] w fun e w' => e = .returned (.bool (longP s)) ∧ Below w.heap.size w w' := by
  unfold longP
  go_enter Tryz.func108, Tryz.ntmps108
  go_wp2
  go_ret
  exact ⟨rfl, Below.refl _ _⟩
set_option maxRecDepth 100000 in
theorem own5_any (s : ByteArray) (w : World) (hs : s.size ≤ reachBytes) (E : Env w) : Calls Tryz.prog 114 #[.string s] w fun e w' => e = .returned (.bool (oddP s)) ∧ Below w.heap.size w w' := by
  have HV := Lib.hid (vstr_any s w (by unfold reachBytes at hs; omega) E.tab)
  unfold oddP validS
  generalize Lib.validD s.data.toList = b at HV ⊢
  clear E hs
  go_enter Tryz.func114, Tryz.ntmps114
  go_wp2_with (go_at_call 111; refine (HV.out).mono ?_; rintro e w2 ⟨rfl, hb⟩; have HB2 := Lib.hid hb; clear hb)
  go_ret
  exact ⟨rfl, HB2.out⟩

set_option maxRecDepth 100000 in
set_option maxHeartbeats 2000000 in
theorem own3_any (x : ByteArray × ByteArray) (w : World) : Calls Tryz.prog 109 #[.agg #[.string x.1, .string x.2]] w fun e w' => e = .returned (.bool (longI x)) ∧ Below w.heap.size w w' := by
  obtain ⟨s0, s1⟩ := x
  dsimp only
  unfold longI
  dsimp only
  obtain ⟨w1, hw1⟩ : ∃ w1, w.alloc (.cells #[.string s0, .string s1] 102) = w1 := ⟨_, rfl⟩
  have HN1 : Hid (Blk w1 w.heap.size 102 #[.string s0, .string s1]) := by unfold Hid; rw [← hw1]; exact Blk.new _ _ _
  have HB1 : Hid (Below w.heap.size w w1) := by unfold Hid; rw [← hw1]; exact (Below.refl _ _).alloc (Nat.le_refl _) _
  go_enter Tryz.func109, Tryz.ntmps109
  go_wp2_with ((with_reducible show wpList _ _ _ (Oper.mk (some 3) _ _ _ _ _ :: _) _ _); refine Hid.out ?_)
  refine Lib.hid ?_
  refine wpList_seqA (w0 := w1) (.inl (.pointer (some ⟨w.heap.size, 0, none⟩)) ::
    .inl (.string s0) ::
    .inl (.int .i64 (s0.size : Int)) ::
    .inl (.bool (decide (((s0.size : Int) : Int) > 256))) ::
    .inl (.bool (decide (((s0.size : Int) : Int) > 256))) ::
    .inl (bif ((decide (((s0.size : Int) : Int) > 256)) == false) then .pointer (some ⟨w.heap.size, 1, none⟩) else undef) ::
    .inl (bif ((decide (((s0.size : Int) : Int) > 256)) == false) then .string s1 else undef) ::
    .inl (bif ((decide (((s0.size : Int) : Int) > 256)) == false) then .int .i64 (s1.size : Int) else undef) ::
    .inl (bif ((decide (((s0.size : Int) : Int) > 256)) == false) then .bool (decide (((s1.size : Int) : Int) > 256)) else undef) ::
    .inl (.bool ((decide (((s0.size : Int) : Int) > 256)) || (decide (((s1.size : Int) : Int) > 256)))) ::
    .inl (.bool ((decide (((s0.size : Int) : Int) > 256)) || (decide (((s1.size : Int) : Int) > 256)))) :: []) (by as_aux_lemma => kernel_rfl) (by as_aux_lemma => kernel_rfl) (nomono rfl) ⟨fun ac W hb hold hdep K hK => op_u (u := .pointer (some ⟨w.heap.size, 0, none⟩)) rfl (r_field 102 _ 0 rfl (eval_tmp ((hold 1 (free_slot (by as_aux_lemma => kernel_rfl))).trans rfl)) Tryz.underlying102 rfl (n := 0) isz_9 rfl) (hK _ _ rfl (Below.refl _ _)),
    fun ac W hb hold hdep K hK => op_u (u := .string s0) rfl (r_load 9 _ rfl (eval_tmp (dep_val (hdep 0 3 (by decide) rfl))) (blk_cell (HN1.out.below hb HN1.out.lt) 0 rfl) Tryz.underlying9 rfl) (hK _ _ rfl (Below.refl _ _)),
    fun ac W hb hold hdep K hK => op_u (u := .int .i64 (s0.size : Int)) rfl (r_lens _ 9 rfl (eval_tmp (dep_val (hdep 1 4 (by decide) rfl))) Tryz.underlying9) (hK _ _ rfl (Below.refl _ _)),
    fun ac W hb hold hdep K hK => op_u (u := .bool (decide (((s0.size : Int) : Int) > 256))) rfl (r_igt 3 _ _ _ rfl (eval_tmp (dep_val (hdep 2 5 (by decide) rfl))) rfl) (hK _ _ rfl (Below.refl _ _)),
    fun ac W hb hold hdep K hK => op_u (u := .bool (decide (((s0.size : Int) : Int) > 256))) rfl (r_move _ rfl (eval_tmp (dep_val (hdep 3 6 (by decide) rfl)))) (hK _ _ rfl (Below.refl _ _)),
    fun ac W hb hold hdep K hK => op_g (u := .pointer (some ⟨w.heap.size, 1, none⟩)) (want_all rfl rfl (dep_val (hdep 4 7 (by decide) rfl))) (fun hc => r_field 102 _ 1 rfl (eval_tmp ((hold 1 (free_slot (by as_aux_lemma => kernel_rfl))).trans rfl)) Tryz.underlying102 rfl (n := 0) isz_9 rfl) (hK _ _ rfl (Below.refl _ _)),
    fun ac W hb hold hdep K hK => op_g (u := .string s1) (want_all rfl rfl (dep_val (hdep 4 7 (by decide) rfl))) (fun hc => r_load 9 _ rfl (eval_if (dep_val (hdep 5 8 (by decide) rfl)) hc) (blk_cell (HN1.out.below hb HN1.out.lt) 1 rfl) Tryz.underlying9 rfl) (hK _ _ rfl (Below.refl _ _)),
    fun ac W hb hold hdep K hK => op_g (u := .int .i64 (s1.size : Int)) (want_all rfl rfl (dep_val (hdep 4 7 (by decide) rfl))) (fun hc => r_lens _ 9 rfl (eval_if (dep_val (hdep 6 9 (by decide) rfl)) hc) Tryz.underlying9) (hK _ _ rfl (Below.refl _ _)),
    fun ac W hb hold hdep K hK => op_g (u := .bool (decide (((s1.size : Int) : Int) > 256))) (want_all rfl rfl (dep_val (hdep 4 7 (by decide) rfl))) (fun hc => r_igt 3 _ _ _ rfl (eval_if (dep_val (hdep 7 10 (by decide) rfl)) hc) rfl) (hK _ _ rfl (Below.refl _ _)),
    fun ac W hb hold hdep K hK => op_u (u := .bool ((decide (((s0.size : Int) : Int) > 256)) || (decide (((s1.size : Int) : Int) > 256)))) rfl (r_or _ _ _ rfl (eval_tmp (dep_val (hdep 4 7 (by decide) rfl))) rfl (fun hb => eval_if (dep_val (hdep 8 11 (by decide) rfl)) (by simp [hb]))) (hK _ _ rfl (Below.refl _ _)),
    fun ac W hb hold hdep K hK => op_u (u := .bool ((decide (((s0.size : Int) : Int) > 256)) || (decide (((s1.size : Int) : Int) > 256)))) rfl (r_assign _ rfl (eval_tmp (dep_val (hdep 9 12 (by decide) rfl)))) (hK _ _ rfl (Below.refl _ _)), trivial⟩ ?_
  intro ae W hb hdef hlen hold hall
  have hv := dep_val (hall 10 2 rfl)
  have HB2 := Lib.hid (HB1.out.trans (hb.mono HB1.out.size))
  clear hb hold hall hlen
  obtain ⟨tm, df⟩ := ae
  dsimp only at hdef hv
  subst hdef
  have HV := Lib.hid hv
  clear hv
  go_wp2
  (try simp only [Exit.inBlock, Exit.then])
  refine bodyPost_ret (results_tmp rfl _ _ _) rfl ?_
  exact ⟨by rw [Array.getD_eq_getD_getElem?, HV.out]; rfl, HB2.out⟩
set_option maxRecDepth 100000 in
set_option maxHeartbeats 2000000 in
theorem own4_any (x : ByteArray × ByteArray) (w : World) (hs : x.1.size ≤ reachBytes ∧ x.2.size ≤ reachBytes) (E : Env w) : Calls Tryz.prog 110 #[.agg #[.string x.1, .string x.2]] w fun e w' => e = .returned (.bool (oddI x)) ∧ Below w.heap.size w w' := by
  obtain ⟨s0, s1⟩ := x
  dsimp only at hs ⊢
  have H0 : Hid (∀ W, Below w.heap.size w W → Calls Tryz.prog 111 #[.string s0] W fun e w' => e = .returned (.bool (validS s0)) ∧ Below W.heap.size W w') := fun W hW => vstr_any s0 W (by have := hs.1; unfold reachBytes at this; omega) (E.below hW).tab
  have H1 : Hid (∀ W, Below w.heap.size w W → Calls Tryz.prog 111 #[.string s1] W fun e w' => e = .returned (.bool (validS s1)) ∧ Below W.heap.size W w') := fun W hW => vstr_any s1 W (by have := hs.2; unfold reachBytes at this; omega) (E.below hW).tab
  unfold oddI
  dsimp only
  generalize validS s0 = v0 at H0 ⊢
  generalize validS s1 = v1 at H1 ⊢
  clear hs E
  obtain ⟨w1, hw1⟩ : ∃ w1, w.alloc (.cells #[.string s0, .string s1] 102) = w1 := ⟨_, rfl⟩
  have HN1 : Hid (Blk w1 w.heap.size 102 #[.string s0, .string s1]) := by unfold Hid; rw [← hw1]; exact Blk.new _ _ _
  have HB1 : Hid (Below w.heap.size w w1) := by unfold Hid; rw [← hw1]; exact (Below.refl _ _).alloc (Nat.le_refl _) _
  go_enter Tryz.func110, Tryz.ntmps110
  go_wp2_with ((with_reducible show wpList _ _ _ (Oper.mk (some 3) _ _ _ _ _ :: _) _ _); refine Hid.out ?_)
  refine Lib.hid ?_
  refine wpList_seqA (w0 := w1) (.inl (.pointer (some ⟨w.heap.size, 0, none⟩)) ::
    .inl (.string s0) ::
    .inl (.bool v0) ::
    .inl (.bool (!v0)) ::
    .inl (.bool (!v0)) ::
    .inl (bif ((!v0) == false) then .pointer (some ⟨w.heap.size, 1, none⟩) else undef) ::
    .inl (bif ((!v0) == false) then .string s1 else undef) ::
    .inl (bif ((!v0) == false) then .bool v1 else undef) ::
    .inl (bif ((!v0) == false) then .bool (!v1) else undef) ::
    .inl (.bool ((!v0) || (!v1))) ::
    .inl (.bool ((!v0) || (!v1))) :: []) (by as_aux_lemma => kernel_rfl) (by as_aux_lemma => kernel_rfl) (nomono rfl) ⟨fun ac W hb hold hdep K hK => op_u (u := .pointer (some ⟨w.heap.size, 0, none⟩)) rfl (r_field 102 _ 0 rfl (eval_tmp ((hold 1 (free_slot (by as_aux_lemma => kernel_rfl))).trans rfl)) Tryz.underlying102 rfl (n := 0) isz_9 rfl) (hK _ _ rfl (Below.refl _ _)),
    fun ac W hb hold hdep K hK => op_u (u := .string s0) rfl (r_load 9 _ rfl (eval_tmp (dep_val (hdep 0 3 (by decide) rfl))) (blk_cell (HN1.out.below hb HN1.out.lt) 0 rfl) Tryz.underlying9 rfl) (hK _ _ rfl (Below.refl _ _)),
    fun ac W hb hold hdep K hK => op_call (u := .bool v0) (c := true) (want_free rfl) 111 _ _ rfl (#[.string s0]) (fun hc => by simp [(eval_tmp (dep_val (hdep 1 4 (by decide) rfl)))]) Tryz.func111 (by as_aux_lemma => kernel_rfl) (by as_aux_lemma => kernel_rfl) (fun hc => H0.out W (HB1.out.trans (hb.mono HB1.out.size))) (fun w' hbl => hK _ _ rfl hbl),
    fun ac W hb hold hdep K hK => op_u (u := .bool (!v0)) rfl (r_not _ _ rfl (eval_tmp (dep_val (hdep 2 5 (by decide) rfl)))) (hK _ _ rfl (Below.refl _ _)),
    fun ac W hb hold hdep K hK => op_u (u := .bool (!v0)) rfl (r_move _ rfl (eval_tmp (dep_val (hdep 3 6 (by decide) rfl)))) (hK _ _ rfl (Below.refl _ _)),
    fun ac W hb hold hdep K hK => op_g (u := .pointer (some ⟨w.heap.size, 1, none⟩)) (want_all rfl rfl (dep_val (hdep 4 7 (by decide) rfl))) (fun hc => r_field 102 _ 1 rfl (eval_tmp ((hold 1 (free_slot (by as_aux_lemma => kernel_rfl))).trans rfl)) Tryz.underlying102 rfl (n := 0) isz_9 rfl) (hK _ _ rfl (Below.refl _ _)),
    fun ac W hb hold hdep K hK => op_g (u := .string s1) (want_all rfl rfl (dep_val (hdep 4 7 (by decide) rfl))) (fun hc => r_load 9 _ rfl (eval_if (dep_val (hdep 5 8 (by decide) rfl)) hc) (blk_cell (HN1.out.below hb HN1.out.lt) 1 rfl) Tryz.underlying9 rfl) (hK _ _ rfl (Below.refl _ _)),
    fun ac W hb hold hdep K hK => op_call (u := .bool v1) (want_all rfl rfl (dep_val (hdep 4 7 (by decide) rfl))) 111 _ _ rfl (#[.string s1]) (fun hc => by simp [(eval_if (dep_val (hdep 6 9 (by decide) rfl)) hc)]) Tryz.func111 (by as_aux_lemma => kernel_rfl) (by as_aux_lemma => kernel_rfl) (fun hc => H1.out W (HB1.out.trans (hb.mono HB1.out.size))) (fun w' hbl => hK _ _ rfl hbl),
    fun ac W hb hold hdep K hK => op_g (u := .bool (!v1)) (want_all rfl rfl (dep_val (hdep 4 7 (by decide) rfl))) (fun hc => r_not _ _ rfl (eval_if (dep_val (hdep 7 10 (by decide) rfl)) hc)) (hK _ _ rfl (Below.refl _ _)),
    fun ac W hb hold hdep K hK => op_u (u := .bool ((!v0) || (!v1))) rfl (r_or _ _ _ rfl (eval_tmp (dep_val (hdep 4 7 (by decide) rfl))) rfl (fun hb => eval_if (dep_val (hdep 8 11 (by decide) rfl)) (by simp [hb]))) (hK _ _ rfl (Below.refl _ _)),
    fun ac W hb hold hdep K hK => op_u (u := .bool ((!v0) || (!v1))) rfl (r_assign _ rfl (eval_tmp (dep_val (hdep 9 12 (by decide) rfl)))) (hK _ _ rfl (Below.refl _ _)), trivial⟩ ?_
  intro ae W hb hdef hlen hold hall
  have hv := dep_val (hall 10 2 rfl)
  have HB2 := Lib.hid (HB1.out.trans (hb.mono HB1.out.size))
  clear hb hold hall hlen
  obtain ⟨tm, df⟩ := ae
  dsimp only at hdef hv
  subst hdef
  have HV := Lib.hid hv
  clear hv
  go_wp2
  (try simp only [Exit.inBlock, Exit.then])
  refine bodyPost_ret (results_tmp rfl _ _ _) rfl ?_
  exact ⟨by rw [Array.getD_eq_getD_getElem?, HV.out]; rfl, HB2.out⟩
theorem SlAt.kept {α : Type} {w : World} {lo : Option Nat} {e : TypeId} {size bytes : Nat} {s : Sl} {L : List α} {cells : List α → List Value} (h : SlAt w lo e size bytes s L.length (cells L)) (h0 : cells [] = []) (l : List Int) (t : Int) : SlAt w none e size bytes (kS l t s) (if t ∈ l then L else []).length (cells (if t ∈ l then L else [])) := by
  unfold kS
  split
  · exact h.any
  · rw [h0]
    exact ⟨fun _ => ⟨rfl, rfl⟩, Nat.le_refl _, Nat.zero_le _, (by show 0 * bytes ≤ _; rw [Nat.zero_mul]; exact Nat.zero_le _), rfl, ⟨(by show 0 = 0 * size; rw [Nat.zero_mul]), fun h => absurd h (by decide)⟩, fun b hb => nomatch hb⟩
theorem FAt.kept {w : World} {lo : Option Nat} {f : OpF} {d a k0 k1 k2 k3 k4 i : Sl} (h : FAt w lo f d a k0 k1 k2 k3 k4 i) : FAt w none (keptF f) (kS tD f.t d) (kS tA f.t a) (kS tZ f.t k0) (kS tZ f.t k1) (kS tZ f.t k2) (kS tZ f.t k3) (kS tZ f.t k4) (kS tT f.t i) :=
  ⟨h.d.kept rfl tD f.t, h.a.kept rfl tA f.t, h.k0.kept rfl tZ f.t, h.k1.kept rfl tZ f.t, h.k2.kept rfl tZ f.t, h.k3.kept rfl tZ f.t, h.k4.kept rfl tZ f.t, h.i.kept rfl tT f.t⟩
end Go.Proofs.YtpjjnmdfgcfnmaaGreatDoor
