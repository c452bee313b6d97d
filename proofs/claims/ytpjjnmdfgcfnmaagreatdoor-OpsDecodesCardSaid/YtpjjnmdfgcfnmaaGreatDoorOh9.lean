/- The document's ops.Get of the type of watches. (printed by gen_h9.py) -/
import Derived.Test.YtpjjnmdfgcfnmaaGreatDoorOhy
set_option linter.unusedVariables false
set_option linter.unusedSimpArgs false
namespace Go.Proofs.YtpjjnmdfgcfnmaaGreatDoor
open Go.RowKit

def fK (f : OpF) (j : Nat) (L : List ByteArray) : OpF := match j with
  | 0 => { f with K0 := L }
  | 1 => { f with K1 := L }
  | 2 => { f with K2 := L }
  | 3 => { f with K3 := L }
  | _ => { f with K4 := L }
def gWn (j : Nat) (f : OpF) : Rg OpF := match j with
  | 0 => gW0 f
  | 1 => gW1 f
  | 2 => gW2 f
  | 3 => gW3 f
  | 4 => gW4 f
  | _ => gW5 f
theorem gWn_step {j : Nat} (h : j < 5) (f : OpF) : gWn j f = gTexts.bind fun x => gWn (j + 1) (fK f j (x.map bs)) := by
  rcases (by omega : j = 0 ∨ j = 1 ∨ j = 2 ∨ j = 3 ∨ j = 4) with rfl | rfl | rfl | rfl | rfl <;> rfl
def gz (k : Nat) (f : OpF) : Rg OpF := match k with
  | 0 => gLong.bind fun z => gW0 { f with zx := z }
  | 1 => gW0 f
  | _ => Rg.ret f
/-- the lists from the j-th on are empty yet -/
def Nl (j : Nat) (k0 k1 k2 k3 k4 : Sl) : Prop := (j ≤ 0 → k0 = nilS) ∧ (j ≤ 1 → k1 = nilS) ∧ (j ≤ 2 → k2 = nilS) ∧ (j ≤ 3 → k3 = nilS) ∧ (j ≤ 4 → k4 = nilS)
section
variable {j : Nat} {w0 w ws : World} {base R C c q q1 : Nat} {A : Option Addr} {l : List UInt8} {f : OpF} {d a k0 k1 k2 k3 k4 i : Sl} {er : Int}
theorem HSt.die (h : HSt w0 base R C c A l q f d a k0 k1 k2 k3 k4 i nilS ws) (hk : Kp [R, w0.heap.size + 1] ws w) (hR : RR w base R A c l q1 er) (he : er ≠ 0) {j : Nat} {v : Value} (hb : Blk w (w0.heap.size + 1) 29 ((f.row d a k0 k1 k2 k3 k4 i nilS).toArray.setIfInBounds j v)) (hv : v.oneCell' = true) : Dead w0 base R C c A l q1 er w := by
  have ho := h.old
  have hoC := h.oldC
  exact ⟨hR, he, h.res.kp hk (by simp; omega), h.kp.to hk (fun x hx _ => hx) (fun y hy hl => by simp at hy; rcases hy with rfl | rfl; simp; omega), ho, hoC, _, hb, by simp [OpF.row], set_one (row_one _ _ _ _ _ _ _ _ _ _) j hv⟩
theorem HSt.close (h : HSt w0 base R C c A l q f d a k0 k1 k2 k3 k4 i nilS ws) (hk : Kp [R, w0.heap.size + 1] ws w) (hR : RR w base R A c l q1 0) (hj : j < 5) (hN : Nl j k0 k1 k2 k3 k4) {x : List (List UInt8)} {A' : Option Addr} {c' : Nat} (ho : w.ownsRow ws.heap.size 9 1 (.slice A' x.length c') x.length (scells (x.map bs))) (hr : x.length * 16 ≤ reachBytes) (hx : ∀ y ∈ x.map bs, y.size ≤ reachBytes) (hb : Blk w (w0.heap.size + 1) 29 ((f.row d a k0 k1 k2 k3 k4 i nilS).toArray.setIfInBounds (11 + j) (.slice A' x.length c'))) :
    ∃ k0' k1' k2' k3' k4', HSt w0 base R C c A l q1 (fK f j (x.map bs)) d a k0' k1' k2' k3' k4' i nilS w ∧ Nl (j + 1) k0' k1' k2' k3' k4' := by
  have hold := h.old
  have hoC := h.oldC
  have hsz := h.size
  have h6 := h.fat.kp hk (by simp; omega)
  have h7 : SlAt w (some (w0.heap.size + 2)) 9 1 16 ⟨A', x.length, c'⟩ (x.map bs).length (strCells (x.map bs)) := by
    rw [List.length_map, strCells_eq]
    exact SlAt.of_own (own_lowO ho hsz) hr
  have h8 := h.res.kp hk (by simp; omega)
  have h9 : Kp [R, C] w0 w := h.kp.to hk (fun x hx _ => hx) (fun y hy hl => by simp at hy; rcases hy with rfl | rfl; simp; omega)
  rcases (by omega : j = 0 ∨ j = 1 ∨ j = 2 ∨ j = 3 ∨ j = 4) with rfl | rfl | rfl | rfl | rfl
  · exact ⟨⟨A', x.length, c'⟩, k1, k2, k3, k4, ⟨hR, hb, h8, h9, hold, hoC, ⟨h6.d, h6.a, h7, h6.k1, h6.k2, h6.k3, h6.k4, h6.i⟩, ⟨h.ok.t, h.ok.fl, h.ok.ve, h.ok.ct, h.ok.by_, h.ok.tl, h.ok.zx, h.ok.to, h.ok.p, h.ok.acl, h.ok.ids, hx, h.ok.k1, h.ok.k2, h.ok.k3, h.ok.k4⟩⟩, (fun h => by first | exact hN.1 (by omega) | omega), (fun h => by first | exact hN.2.1 (by omega) | omega), (fun h => by first | exact hN.2.2.1 (by omega) | omega), (fun h => by first | exact hN.2.2.2.1 (by omega) | omega), (fun h => by first | exact hN.2.2.2.2 (by omega) | omega)⟩
  · exact ⟨k0, ⟨A', x.length, c'⟩, k2, k3, k4, ⟨hR, hb, h8, h9, hold, hoC, ⟨h6.d, h6.a, h6.k0, h7, h6.k2, h6.k3, h6.k4, h6.i⟩, ⟨h.ok.t, h.ok.fl, h.ok.ve, h.ok.ct, h.ok.by_, h.ok.tl, h.ok.zx, h.ok.to, h.ok.p, h.ok.acl, h.ok.ids, h.ok.k0, hx, h.ok.k2, h.ok.k3, h.ok.k4⟩⟩, (fun h => by first | exact hN.1 (by omega) | omega), (fun h => by first | exact hN.2.1 (by omega) | omega), (fun h => by first | exact hN.2.2.1 (by omega) | omega), (fun h => by first | exact hN.2.2.2.1 (by omega) | omega), (fun h => by first | exact hN.2.2.2.2 (by omega) | omega)⟩
  · exact ⟨k0, k1, ⟨A', x.length, c'⟩, k3, k4, ⟨hR, hb, h8, h9, hold, hoC, ⟨h6.d, h6.a, h6.k0, h6.k1, h7, h6.k3, h6.k4, h6.i⟩, ⟨h.ok.t, h.ok.fl, h.ok.ve, h.ok.ct, h.ok.by_, h.ok.tl, h.ok.zx, h.ok.to, h.ok.p, h.ok.acl, h.ok.ids, h.ok.k0, h.ok.k1, hx, h.ok.k3, h.ok.k4⟩⟩, (fun h => by first | exact hN.1 (by omega) | omega), (fun h => by first | exact hN.2.1 (by omega) | omega), (fun h => by first | exact hN.2.2.1 (by omega) | omega), (fun h => by first | exact hN.2.2.2.1 (by omega) | omega), (fun h => by first | exact hN.2.2.2.2 (by omega) | omega)⟩
  · exact ⟨k0, k1, k2, ⟨A', x.length, c'⟩, k4, ⟨hR, hb, h8, h9, hold, hoC, ⟨h6.d, h6.a, h6.k0, h6.k1, h6.k2, h7, h6.k4, h6.i⟩, ⟨h.ok.t, h.ok.fl, h.ok.ve, h.ok.ct, h.ok.by_, h.ok.tl, h.ok.zx, h.ok.to, h.ok.p, h.ok.acl, h.ok.ids, h.ok.k0, h.ok.k1, h.ok.k2, hx, h.ok.k4⟩⟩, (fun h => by first | exact hN.1 (by omega) | omega), (fun h => by first | exact hN.2.1 (by omega) | omega), (fun h => by first | exact hN.2.2.1 (by omega) | omega), (fun h => by first | exact hN.2.2.2.1 (by omega) | omega), (fun h => by first | exact hN.2.2.2.2 (by omega) | omega)⟩
  · exact ⟨k0, k1, k2, k3, ⟨A', x.length, c'⟩, ⟨hR, hb, h8, h9, hold, hoC, ⟨h6.d, h6.a, h6.k0, h6.k1, h6.k2, h6.k3, h7, h6.i⟩, ⟨h.ok.t, h.ok.fl, h.ok.ve, h.ok.ct, h.ok.by_, h.ok.tl, h.ok.zx, h.ok.to, h.ok.p, h.ok.acl, h.ok.ids, h.ok.k0, h.ok.k1, h.ok.k2, h.ok.k3, hx⟩⟩, (fun h => by first | exact hN.1 (by omega) | omega), (fun h => by first | exact hN.2.1 (by omega) | omega), (fun h => by first | exact hN.2.2.1 (by omega) | omega), (fun h => by first | exact hN.2.2.2.1 (by omega) | omega), (fun h => by first | exact hN.2.2.2.2 (by omega) | omega)⟩
theorem HSt.nil_row (h : Nl j k0 k1 k2 k3 k4) (hj : j < 5) : (f.row d a k0 k1 k2 k3 k4 i nilS).toArray = (f.row d a k0 k1 k2 k3 k4 i nilS).toArray.setIfInBounds (11 + j) (.slice none 0 0) := by
  obtain ⟨h0, h1, h2, h3, h4⟩ := h
  rcases (by omega : j = 0 ∨ j = 1 ∨ j = 2 ∨ j = 3 ∨ j = 4) with rfl | rfl | rfl | rfl | rfl
  · rw [h0 (by omega)]; rfl
  · rw [h1 (by omega)]; rfl
  · rw [h2 (by omega)]; rfl
  · rw [h3 (by omega)]; rfl
  · rw [h4 (by omega)]; rfl
/-- the reading of a list goes on -/
theorem texts_next {G : (OpF × Nat) ⊕ (Int × Nat)} {t : Nat × Int} {ds : List (List UInt8)} {m : Nat} {kf : List (List UInt8) → Rg OpF} {r : List UInt8 × (Nat × Int)} (ht : t.2 = 0) (hG : G = ((gMany (gText 4096) (m + 1)).bind fun y => kf (ds ++ y)) l t.1) (hr : r = stepS (gText 4096) [] l t) :
    (r.2.2 = 0 → G = ((gMany (gText 4096) m).bind fun y => kf ((ds ++ [r.1]) ++ y)) l r.2.1) ∧ (r.2.2 ≠ 0 → G = .inr (r.2.2, r.2.1)) ∧ r.1.length ≤ 4096 := by
  obtain ⟨p, e⟩ := t
  dsimp only at ht hG
  subst ht
  rcases hg : gText 4096 l p with ⟨x, q⟩ | ⟨er, q⟩
  · rw [stepS_yes [] hg] at hr
    subst hr
    refine ⟨fun _ => ?_, fun h => absurd rfl h, by have := gText_most hg; dsimp only; omega⟩
    rw [hG]
    unfold Rg.bind
    dsimp only
    rw [gMany_succ, hg]
    dsimp only
    rcases gMany (gText 4096) m l q with ⟨y, q2⟩ | ⟨e2, q2⟩
    · dsimp only
      rw [List.append_assoc]
      rfl
    · rfl
  · have hne := (sure_text 4096) _ _ _ _ hg
    rw [stepS_no [] hg] at hr
    subst hr
    refine ⟨fun h => absurd h hne, fun _ => ?_, by simp⟩
    rw [hG]
    unfold Rg.bind
    dsimp only
    rw [gMany_succ, hg]
end
def Sw (w0 : World) (base R C c : Nat) (A : Option Addr) (l : List UInt8) (G : (OpF × Nat) ⊕ (Int × Nat)) (K : Array Value) (j : Nat) (g : OpF → Rg OpF) (w : World) : Prop :=
  (∃ (f : OpF) (d a k0 k1 k2 k3 k4 i : Sl) (q : Nat), HSt w0 base R C c A l q f d a k0 k1 k2 k3 k4 i nilS w ∧ Blk w C 98 K ∧ G = g f l q ∧ Nl j k0 k1 k2 k3 k4) ∨ ∃ (q : Nat) (er : Int), Dead w0 base R C c A l q er w ∧ G = .inr (er, q)
theorem count_next {G : (OpF × Nat) ⊕ (Int × Nat)} {q : Nat} {kf : List (List UInt8) → Rg OpF} (base R : Nat) (A : Option Addr) (c : Nat) (l : List UInt8) (w : World) (h : RR w base R A c l q 0) (hG : G = (gTexts.bind fun x => kf x) l q) :
    ∃ (N : Nat) (t : Nat × Int), N ≤ 2147483647 ∧ (t.2 = 0 → G = ((gMany (gText 4096) N).bind fun y => kf ([] ++ y)) l t.1) ∧ (t.2 ≠ 0 → G = .inr (t.2, t.1)) ∧ Calls Tryz.prog 95 #[.pointer (some ⟨R, 0, none⟩), .int .i64 1024, .int .i64 4] w fun e w' => e = .returned (.int .i64 N) ∧ Kp [R] w w' ∧ RR w' base R A c l t.1 t.2 := by
  have hcnt := sCount base R A c l q 0 w 1024 4 h
  unfold gTexts gGet Rg.bind at hG
  dsimp only at hG
  rcases hr : gCount 1024 4 l q with ⟨n, q1⟩ | ⟨er, q1⟩
  · rw [stepS_yes 0 hr] at hcnt
    rw [hr] at hG
    exact ⟨n, (q1, 0), gCount_bd hr, fun _ => hG, fun h => absurd rfl h, hcnt.mono fun e w' ⟨⟨v, h1, h2⟩, h3, h4⟩ => ⟨by rw [h1]; exact congrArg Ending.returned h2, h3, h4⟩⟩
  · have hne := sure_count _ _ _ _ _ _ hr
    rw [stepS_no 0 hr] at hcnt
    rw [hr] at hG
    exact ⟨0, (q1, er), by omega, fun h => absurd h hne, fun _ => hG, hcnt.mono fun e w' ⟨⟨v, h1, h2⟩, h3, h4⟩ => ⟨by rw [h1]; exact congrArg Ending.returned h2, h3, h4⟩⟩
structure InSt (w0 : World) (base R C c : Nat) (A : Option Addr) (l : List UInt8) (G : (OpF × Nat) ⊕ (Int × Nat)) (K : Array Value) (f : OpF) (d a k0 k1 k2 k3 k4 i : Sl) (ws : World) (j N n : Nat) (t : Nat × Int) (ds : List (List UInt8)) (v : Value) (wr : World) : Prop where
  len : ds.length = n
  go : t.2 = 0 → G = ((gMany (gText 4096) (N - n)).bind fun y => gWn (j + 1) (fK f j ((ds ++ y).map bs))) l t.1
  no : t.2 ≠ 0 → G = .inr (t.2, t.1)
  kp : Kp [R, w0.heap.size + 1] ws wr
  rdr : RR wr base R A c l t.1 t.2
  own : wr.ownsRow ws.heap.size 9 1 v n (scells (ds.map bs))
  row : Blk wr (w0.heap.size + 1) 29 ((f.row d a k0 k1 k2 k3 k4 i nilS).toArray.setIfInBounds (11 + j) v)
  cnt : Blk wr C 98 K
  small : ∀ x ∈ ds, x.length ≤ 4096
theorem InSt.leave {w0 ws wr : World} {base R C c q N n j : Nat} {A : Option Addr} {l : List UInt8} {G : (OpF × Nat) ⊕ (Int × Nat)} {K : Array Value} {f : OpF} {d a k0 k1 k2 k3 k4 i : Sl} {t : Nat × Int} {ds : List (List UInt8)} {v : Value} (h : InSt w0 base R C c A l G K f d a k0 k1 k2 k3 k4 i ws j N n t ds v wr) (hs : HSt w0 base R C c A l q f d a k0 k1 k2 k3 k4 i nilS ws) (hj : j < 5) (hN : Nl j k0 k1 k2 k3 k4) (hNb : N ≤ 2147483647) (hor : n = N ∨ t.2 ≠ 0) : Sw w0 base R C c A l G K (j + 1) (gWn (j + 1)) wr := by
  by_cases ht : t.2 = 0
  · obtain rfl : n = N := hor.resolve_right (fun h => h ht)
    have hG := h.go ht
    rw [Nat.sub_self] at hG
    have hG' : G = gWn (j + 1) (fK f j (ds.map bs)) l t.1 := by
      rw [hG]
      show gWn (j + 1) (fK f j ((ds ++ []).map bs)) l t.1 = _
      rw [List.append_nil]
    have ho := h.own
    obtain ⟨A', c', rfl⟩ := slice_form ho
    have hR := h.rdr
    rw [ht] at hR
    have hl := h.len
    have hb := h.row
    rw [← hl] at ho hb
    obtain ⟨a0, a1, a2, a3, a4, h1, h2⟩ := hs.close h.kp hR hj hN ho (by unfold reachBytes; omega) (fun y hy => by
      obtain ⟨z, hz, rfl⟩ := List.mem_map.1 hy
      have := h.small z hz
      rw [bs_size]
      unfold reachBytes
      omega) hb
    exact .inl ⟨_, _, _, a0, a1, a2, a3, a4, _, _, h1, h.cnt, hG', h2⟩
  · have ho := h.own
    obtain ⟨A', c', rfl⟩ := slice_form ho
    exact .inr ⟨_, _, hs.die h.kp h.rdr ht h.row rfl, h.no ht⟩
set_option maxRecDepth 100000 in
set_option maxHeartbeats 40000000 in
theorem rwat_ok : RWatOk := fun base R C c p A l inn K w h hC hRC => by
  obtain ⟨wa, hwa⟩ : ∃ wa, w.alloc (.cells #[.int .i32 0, .string ⟨#[]⟩, .slice none 0 0, .slice none 0 0, .int .i32 0, .int .i32 0, .bool false, .int .i64 0, .int .i64 0, .int .i64 0, .int .i64 0, .slice none 0 0, .slice none 0 0, .slice none 0 0, .slice none 0 0, .slice none 0 0, .int .i32 0, .slice none 0 0, .slice none 0 0] 29) = wa := ⟨_, rfl⟩
  have hza : wa.heap.size = w.heap.size + 1 := by rw [← hwa]; simp
  obtain ⟨w1, hw1⟩ : ∃ w1, wa.alloc (.cells ((zF 101).row nilS nilS nilS nilS nilS nilS nilS nilS nilS).toArray 29) = w1 := ⟨_, rfl⟩
  have H0 := HSt.start h hC.lt (t := 101) rfl hwa hw1
  have hC1 : Blk w1 C 98 K := by
    have h1 := newB hwa
    have h2 := newB hw1
    exact hC.below (h1.trans (h2.mono h1.size)) hC.lt
  obtain ⟨G, hG⟩ : ∃ G, G = gWat l p := ⟨_, rfl⟩
  rw [← hG]
  have HST : Hid (Sw w base R C c A l G K 0 (gz 0) w1) := .inl ⟨_, _, _, _, _, _, _, _, _, _, H0, hC1, hG, fun _ => rfl, fun _ => rfl, fun _ => rfl, fun _ => rfl, fun _ => rfl⟩
  have HK : Hid (∀ W, Calls Tryz.prog 12 #[.int .i32 101] W fun e w' => e = .returned (.int .i64 1) ∧ w' = W) := fun W => by
    have h := refKind_any 101 W
    rwa [show kindN 101 = 1 from by decide] at h
  obtain ⟨F, hF⟩ : ∃ F, F = fieldsN 101 := ⟨_, rfl⟩
  obtain ⟨s3, hs3⟩ : ∃ s3 : ByteArray, s3 = ⟨F.toArray⟩ := ⟨_, rfl⟩
  have HFI : Hid (∀ W, Calls Tryz.prog 54 #[.int .i32 101] W fun e w' => e = .returned (.string s3) ∧ w' = W) := fun W => by rw [hs3, hF]; exact fields_any 101 W
  have hsz : s3.size = F.length := by rw [hs3]; simp [ByteArray.size]
  have hFl : F.length ≤ 1000 := by rw [hF]; decide +kernel
  have hFd : F = [122, 107] := by rw [hF]; decide +kernel
  have HF2 : Hid (F.length = 2) := by unfold Hid; rw [hFd]; rfl
  have HIX : Hid (∀ W (k : Nat) (hk : k < F.length), (Instr.index 9 (.string s3) (.int .i64 (k : Int))).run Tryz.prog W = .ok (.int .u8 ((F[k]).toNat : Int)) W) := fun W k hk => by
    have hks : k < s3.size := by rw [hsz]; exact hk
    rw [run_index_string W _ s3 .i64 k Tryz.underlying9, dif_pos ⟨by omega, by omega⟩]
    subst hs3
    rfl
  have HIZ : Hid (∀ W (k : Nat), k = 0 → (Instr.index 9 (.string s3) (.int .i64 (k : Int))).run Tryz.prog W = .ok (.int .u8 122) W) := fun W k hk => by
    subst hk
    rw [HIX.out W 0 (by rw [hFd]; decide)]
    subst hFd
    rfl
  have HIK : Hid (∀ W (k : Nat), k = 1 → (Instr.index 9 (.string s3) (.int .i64 (k : Int))).run Tryz.prog W = .ok (.int .u8 107) W) := fun W k hk => by
    subst hk
    rw [HIX.out W 1 (by rw [hFd]; decide)]
    subst hFd
    rfl
  have HRC := Lib.hid hRC
  obtain ⟨i0, hi0, hz0, hzi1, hzi2⟩ := info_parts str_info
  clear H0 hC1 hG h hC hF hs3 hRC hFd HIX
  go_enter Tryz.func62, Tryz.ntmps62
  go_wp2_with (first
    | (with_reducible refine wpAt 9 ?_
       refine wpList_newrow rfl rfl 29 rfl 9 rfl (.tmp 16) rfl rfl ((zF 101).row nilS nilS nilS nilS nilS nilS nilS nilS nilS).toArray (fun _ => rfl) (show 9 < 153 by decide) zer_op isz_29 (row_one _ _ _ _ _ _ _ _ _ _) ?_
       rw [hw1])
    | (go_at_call 12
       refine (HK.out _).mono ?_
       rintro e w2 ⟨rfl, he⟩
       obtain rfl := he.symm)
    | (go_at_call 54
       refine (HFI.out _).mono ?_
       rintro e w2 ⟨rfl, he⟩
       obtain rfl := he.symm))
  clear HK HFI
  go_loopw [12] (fun v12 wr => ∃ k : Nat, k ≤ F.length ∧ v12 = .int .i64 (k : Int) ∧ Hid (Sw w base R C c A l G K (if k < 2 then 0 else 5) (gz k) wr)) (fun v12 _ => F.length - (intOf v12).toNat)
  case atStart => exact ⟨0, by omega, rfl, HST.out⟩
  case round =>
    clear HST
    obtain ⟨k, hk, rfl, HS⟩ := hrel
    rcases HS.out with ⟨f, d, a, k0, k1, k2, k3, k4, i, q, hst, hcb, hg, hnl⟩ | ⟨q, er, hdd, hg⟩
    rotate_left
    · -- it has failed
      obtain ⟨c0, c1, c2, f1, f2⟩ := hdd.rdr.cells
      have hne := hdd.ne
      have hnb : (er == 0) = false := by simpa using hne
      obtain ⟨cs, hb, hz, ho⟩ := hdd.row
      have HB := Lib.hid hb
      have HZ : Hid (19 = cs.size) := hz.symm
      have HI : Hid ((Tryz.prog.info? 29).map (·.size) = some cs.size) := by unfold Hid; rw [hz]; exact isz_29
      have HO := Lib.hid ho
      have HRES := Lib.hid hdd.res
      have HD := Lib.hid hdd
      have HG := Lib.hid hg
      have HZ19 := Lib.hid hz
      clear hdd hne hb hz ho hg HS
      by_cases hlt : k < F.length
      all_goals
        go_wp2_with (first
          | (with_reducible refine wpAt 152 ?_
             refine wpList_load_row rfl 29 (.tmp 9) rfl (w.heap.size + 1) rfl 29 _ _ _ HB.out Tryz.underlying29 rfl HI.out ?_)
          | ((with_reducible show wpList _ _ _ (Oper.mk none (.store _ (.tmp 8) _) _ _ _ _ :: _) _ _)
             refine wpList_store_row rfl 29 (.tmp 8) (.tmp 152) rfl w.heap.size cs rfl rfl 29 _ HRES.out HI.out HZ.out HO.out ?_
             have hbz := cells_setRow (cs := cs) HRES.out
             have HFIN := Lib.hid (HD.out.fin cs)
             generalize hww : World.setRow _ _ _ = wz at hbz HFIN ⊢
             have HBZ := Lib.hid hbz
             clear hww hbz))
        refine bodyPost_ret (results_cell_row rfl _ _ w.heap.size 29 _ _ _ rfl HBZ.out Tryz.underlying29 rfl HI.out) rfl ?_
        rw [HG.out]
        exact ⟨⟨cs.toList, by simp, by rw [Array.length_toList]; exact HZ19.out, by simpa using HO.out⟩, HD.out.ne, HFIN.out.1, HFIN.out.2⟩
    · obtain ⟨c0, c1, c2, f1, f2⟩ := hst.rdr.cells
      have HN := Lib.hid hst
      have HCB := Lib.hid hcb
      have HZ : Hid (w.heap.size + 2 ≤ wr.heap.size) := hst.size
      by_cases hlt : k < F.length
      rotate_left
      · have hkl : k = 2 := by have := HF2.out; omega
        rw [hkl] at hg
        have HG : Hid (G = .inl (f, q)) := hg
        obtain ⟨cs, hcs⟩ : ∃ cs, cs = (f.row d a k0 k1 k2 k3 k4 i nilS).toArray := ⟨_, rfl⟩
        have HB : Hid (Blk wr (w.heap.size + 1) 29 cs) := by rw [hcs]; exact hst.blk
        have HI : Hid ((Tryz.prog.info? 29).map (·.size) = some cs.size) := by unfold Hid; rw [hcs]; exact isz_29
        have HO : Hid (cs.all (·.oneCell') = true) := by unfold Hid; rw [hcs]; exact row_one _ _ _ _ _ _ _ _ _ _
        have HZZ : Hid (19 = cs.size) := by unfold Hid; rw [hcs]; rfl
        have HRES := Lib.hid hst.res
        have HCS := Lib.hid hcs
        clear hst hcb hg HS hcs hkl
        go_wp2_with (first
          | (with_reducible refine wpAt 152 ?_
             refine wpList_load_row rfl 29 (.tmp 9) rfl (w.heap.size + 1) rfl 29 _ _ _ HB.out Tryz.underlying29 rfl HI.out ?_)
          | ((with_reducible show wpList _ _ _ (Oper.mk none (.store _ (.tmp 8) _) _ _ _ _ :: _) _ _)
             refine wpList_store_row rfl 29 (.tmp 8) (.tmp 152) rfl w.heap.size cs rfl rfl 29 _ HRES.out HI.out HZZ.out HO.out ?_
             have hbz := cells_setRow (cs := cs) HRES.out
             have hkz : Kp [w.heap.size] wr (wr.setRow w.heap.size cs) := Kp.setRow _ _
             have HFIN := Lib.hid (HN.out.fin cs)
             generalize hww : World.setRow _ _ _ = wz at hbz hkz HFIN ⊢
             have HBZ := Lib.hid hbz
             have HKZ := Lib.hid hkz
             clear hww hbz hkz))
        refine bodyPost_ret (results_cell_row rfl _ _ w.heap.size 29 _ _ _ rfl HBZ.out Tryz.underlying29 rfl HI.out) rfl ?_
        rw [HG.out]
        obtain ⟨hf1, hf2, hf3⟩ := HFIN.out
        exact ⟨⟨_, rfl, _, by rw [HCS.out], .mk f d a k0 k1 k2 k3 k4 i nilS [] HN.out.ok hf3.d hf3.a hf3.k0 hf3.k1 hf3.k2 hf3.k3 hf3.k4 hf3.i (SlAt.zero _ _ _ _ _) (fun _ h => nomatch h), HCB.out.kp HKZ.out (by have := HN.out.oldC; simp; omega)⟩, hf1, hf2⟩
      · clear hst hcb HS
        have HNL : Hid (Nl 0 k0 k1 k2 k3 k4) := by have := HF2.out; unfold Hid; rwa [if_pos (by omega)] at hnl
        clear hnl
        by_cases hk0 : k = 0
        · have hg' : G = (gLong.bind fun x => gW0 { f with zx := x }) l q := by rw [hg, hk0]; rfl
          have hx' := HIZ.out wr k hk0
          have hcon : Calls Tryz.prog 94 #[.pointer (some ⟨R, 0, none⟩)] wr (RefV base R A c l vInt64 (fun v => v = .int .i64 0) (gLong l q) wr) := refv_of (dLong base R A c l q wr HN.out.rdr)
          clear hg
          have HK0 := Lib.hid hk0
          clear hk0
          rcases h1 : gLong l q with ⟨x, q1⟩ | ⟨er, q1⟩
          · rw [h1] at hcon
            have HCON := Lib.hid hcon
            have HGN := Lib.hid (show G = gz (k + 1) _ l q1 by rw [HK0.out, hg']; exact gb_ev h1)
            have HX : Hid ((Lit.int .i64 x).wf = true) := gLong_wf h1
            clear hcon hg' h1
            go_wp2_with (go_at_call 94; refine HCON.out.mono ?_; rintro e w2 ⟨⟨v, rfl, hv⟩, hkp, hR⟩; have hsz2 := hkp.size; have hst := HN.out.read hkp.two hR; have kc := hst.blk.cell; have kf := hst.blk.frozen; have HN2 := Lib.hid hst; have HCB2 := Lib.hid (HCB.out.kp hkp (by simpa using HRC.out)); clear hkp hR hst; have HZ2 := Lib.hid hsz2; clear hsz2; refine Hid.out ?_)
            refine Lib.hid ?_
            clear c0 c1 c2 f1 f2
            obtain rfl := hv
            obtain ⟨w3, hw3⟩ : ∃ w3, w2.setCell ⟨w.heap.size + 1, 10, none⟩ (.int .i64 x) = w3 := ⟨_, rfl⟩
            have HS3 : Hid (Sw w base R C c A l G K (if k + 1 < 2 then 0 else 5) (gz (k + 1)) w3) := by
              unfold Hid
              rw [← hw3]
              exact .inl ⟨_, _, _, _, _, _, _, _, _, _, HN2.out.set_zx HX.out, HCB2.out.far (p := ⟨w.heap.size + 1, 10, none⟩) (by have := HN.out.oldC; simp; omega) _, HGN.out, by rw [HK0.out]; exact HNL.out⟩
            go_wp2
            go_roundw
            case rel => exact ⟨k + 1, by omega, by go_num, HS3.out⟩
            case measure => simp [intOf]; omega
          · rw [h1] at hcon
            have HCON := Lib.hid hcon
            have HGE := Lib.hid (hg'.trans (gb_no h1))
            clear hcon hg' h1
            go_wp2_with (go_at_call 94; refine HCON.out.mono ?_; rintro e w2 ⟨⟨v, rfl, hv⟩, hne, hkp, hR⟩; have hb2 := HN.out.blk.kp hkp (by have := HN.out.old; simp; omega); have kc := hb2.cell; have kf := hb2.frozen; obtain rfl := hv; have HDD := Lib.hid (HN.out.dead hkp hR hne 10 (v := .int .i64 0) rfl); clear hkp hR hne hb2; refine Hid.out ?_)
            refine Lib.hid ?_
            clear c0 c1 c2 f1 f2
            obtain ⟨w3, hw3⟩ : ∃ w3, w2.setCell ⟨w.heap.size + 1, 10, none⟩ (.int .i64 0) = w3 := ⟨_, rfl⟩
            have HS3 : Hid (Sw w base R C c A l G K (if k + 1 < 2 then 0 else 5) (gz (k + 1)) w3) := by
              unfold Hid
              rw [← hw3]
              exact .inr ⟨_, _, HDD.out, HGE.out⟩
            go_wp2
            go_roundw
            case rel => exact ⟨k + 1, by omega, by go_num, HS3.out⟩
            case measure => simp [intOf]; omega
        · have hk1 : k = 1 := by have := HF2.out; omega
          have hx' := HIK.out wr k hk1
          have HG : Hid (G = gWn 0 f l q) := by unfold Hid; rw [hg, hk1]; rfl
          have HK1 := Lib.hid hk1
          clear hg hk0 hk1
          obtain ⟨wp, rfl⟩ : ∃ v, v = wr := ⟨_, rfl⟩
          go_wp2
          go_loopw [13] (fun v13 wr => ∃ j : Nat, j ≤ 5 ∧ v13 = .int .i64 (j : Int) ∧ Hid (Sw w base R C c A l G K j (gWn j) wr)) (fun v13 _ => 5 - (intOf v13).toNat)
          case atStart => exact ⟨0, by omega, rfl, .inl ⟨f, d, a, k0, k1, k2, k3, k4, i, q, HN.out, HCB.out, HG.out, HNL.out⟩⟩
          case round =>
            clear HG HN HCB c0 c1 c2 f1 f2 HNL HZ hx' q i k4 k3 k2 k1 k0 a d f wp
            obtain ⟨j, hj, rfl, HO⟩ := hrel
            by_cases hj5 : j < 5
            rotate_left
            · have HS3 : Hid (Sw w base R C c A l G K (if k + 1 < 2 then 0 else 5) (gz (k + 1)) wr) := by
                unfold Hid
                rw [HK1.out]
                have h := HO.out
                rw [show j = 5 by omega] at h
                exact h
              have hj' : ¬ (j : Int) < 5 := by omega
              go_wp2
              go_roundw
              case rel => exact ⟨k + 1, by omega, by go_num, HS3.out⟩
              case measure => simp [intOf]; omega
            · have hj' : (j : Int) < 5 := by omega
              have HJ := Lib.hid hj5
              obtain ⟨ws, rfl⟩ : ∃ v, v = wr := ⟨_, rfl⟩
              rcases HO.out with ⟨f, d, a, k0, k1, k2, k3, k4, i, q, hst, hcb, hg, hnl⟩ | ⟨q, er, hdd, hg⟩
              rotate_left
              · have hcnt := sCount base R A c l q er ws 1024 4 hdd.rdr
                rw [stepS_dead _ _ _ hdd.ne] at hcnt
                have HCN : Hid (Calls Tryz.prog 95 #[.pointer (some ⟨R, 0, none⟩), .int .i64 1024, .int .i64 4] ws fun e w' => e = .returned (.int .i64 0) ∧ Dead w base R C c A l q er w') :=
                  hcnt.mono fun e w' ⟨⟨v, h1, h2⟩, h3, h4⟩ => ⟨by rw [h1]; exact congrArg Ending.returned h2, h4, hdd.ne, hdd.res.kp h3 (by have := hdd.old; simp; omega), hdd.kp.trans h3.two, hdd.old, hdd.oldC, by obtain ⟨cs, r1, r2, r3⟩ := hdd.row; exact ⟨cs, r1.kp h3 (by have := hdd.old; simp; omega), r2, r3⟩⟩
                have HG := Lib.hid hg
                clear hcnt hdd hg
                go_wp2_with (go_at_call 95; refine HCN.out.mono ?_; rintro e w2 ⟨rfl, hd2⟩; have HD2 := Lib.hid hd2; clear hd2)
                go_loopw [14] (fun v14 wr => v14 = .int .i64 0 ∧ Hid (Dead w base R C c A l q er wr)) (fun _ _ => 0)
                case atStart => exact ⟨rfl, HD2.out⟩
                case round =>
                  clear HD2
                  obtain ⟨rfl, HD⟩ := hrel
                  go_wp2
                  go_roundw
                  case rel => exact ⟨j + 1, by omega, by go_num, .inr ⟨q, er, HD.out, HG.out⟩⟩
                  case measure => simp [intOf]; omega
              · obtain ⟨N, t0, hNb, hgo, hno, hcnt⟩ := count_next (G := G) (kf := fun x => gWn (j + 1) (fK f j (x.map bs))) base R A c l ws hst.rdr (hg.trans (congrFun (congrFun (gWn_step hj5 f) l) q))
                have HNB := Lib.hid hNb
                have HCN := Lib.hid hcnt
                have HGO := Lib.hid (And.intro hgo hno)
                have HN := Lib.hid hst
                have HNL := Lib.hid hnl
                have HCB := Lib.hid hcb
                have HZ : Hid (w.heap.size + 2 ≤ ws.heap.size) := hst.size
                clear hst hcb hg hnl hgo hno hcnt hNb
                go_wp2_with (go_at_call 95; refine HCN.out.mono ?_; rintro e w2 ⟨rfl, hkp, hR⟩; have HK2 := Lib.hid hkp; have HR2 := Lib.hid hR; clear hkp hR)
                go_loopw [14] (fun v14 wr => ∃ (n : Nat) (t : Nat × Int) (ds : List (List UInt8)) (v : Value), n ≤ N ∧ v14 = .int .i64 ((N : Int) - n) ∧ Hid (InSt w base R C c A l G K f d a k0 k1 k2 k3 k4 i ws j N n t ds v wr)) (fun v14 _ => (intOf v14).toNat)
                case atStart =>
                  refine ⟨0, t0, [], .slice none 0 0, Nat.zero_le _, by simp, rfl, HGO.out.1, HGO.out.2, HK2.out.mono (fun x hx _ => by simp at hx; simp [hx]), HR2.out, World.ownsRow_nil _ _ _ _, ?_, HCB.out.kp HK2.out (by simpa using HRC.out), fun _ h => nomatch h⟩
                  rw [← HSt.nil_row HNL.out HJ.out]
                  exact HN.out.blk.kp HK2.out (by have := HN.out.old; simp; omega)
                case round =>
                  clear HK2 HR2 HGO HCN HCB
                  obtain ⟨n, t, ds, v, hn, rfl, HI⟩ := hrel
                  obtain ⟨c0, c1, c2, f1, f2⟩ := HI.out.rdr.cells
                  by_cases hor : n = N ∨ t.2 ≠ 0
                  · have HS3 : Hid (Sw w base R C c A l G K (j + 1) (gWn (j + 1)) wr) := HI.out.leave HN.out HJ.out HNL.out HNB.out hor
                    have HT : Hid (t.2 = t.2) := rfl
                    by_cases hnN : n < N
                    · have hne : (t.2 == 0) = false := by simpa using hor.resolve_left (by omega)
                      have hn' : (0 : Int) < (N : Int) - n := by omega
                      clear hor
                      go_wp2
                      go_roundw
                      case rel => exact ⟨j + 1, by omega, by go_num, HS3.out⟩
                      case measure => simp [intOf]; omega
                    · have hn' : ¬ (0 : Int) < (N : Int) - n := by omega
                      clear hor
                      go_wp2
                      go_roundw
                      case rel => exact ⟨j + 1, by omega, by go_num, HS3.out⟩
                      case measure => simp [intOf]; omega
                  · have hnN : n < N := by omega
                    have ht : t.2 = 0 := by omega
                    have hn' : (0 : Int) < (N : Int) - n := by omega
                    obtain ⟨m, hm⟩ : ∃ m, N - n = m + 1 := ⟨N - n - 1, by omega⟩
                    obtain ⟨r, hr⟩ : ∃ r, r = stepS (gText 4096) [] l t := ⟨_, rfl⟩
                    have hnx := texts_next (G := G) (kf := fun x => gWn (j + 1) (fK f j (x.map bs))) (m := m) (ds := ds) ht (by rw [← hm]; exact HI.out.go ht) hr
                    have HNX := Lib.hid hnx
                    have HM : Hid (N - (n + 1) = m) := by unfold Hid; omega
                    have HTX : Hid (∀ W, Below wr.heap.size wr W → Calls Tryz.prog 90 #[.pointer (some ⟨R, 0, none⟩), .int .i64 4096] W fun e w' => e = .returned (.string ⟨r.1.toArray⟩) ∧ Kp [R] W w' ∧ RR w' base R A c l r.2.1 r.2.2) := fun W hW =>
                      (sText base R A c l t.1 t.2 W 4096 (HI.out.rdr.later hW) (HI.out.rdr.later hW).low).mono fun e w' ⟨⟨v, h1, h2⟩, h3, h4⟩ => by rw [hr]; exact ⟨by rw [h1]; exact congrArg Ending.returned h2, h3, h4⟩
                    have HNN : Hid (n < N) := hnN
                    have hkc := HI.out.row.cell (11 + j)
                    have hkf := HI.out.row.frozen (11 + j)
                    have hkc' : wr.cell? ⟨w.heap.size + 1, 11 + j, none⟩ = some v := by rw [hkc, Array.getElem?_setIfInBounds, if_pos rfl, if_pos (by simp [OpF.row]; omega)]
                    clear hkc
                    rw [ht] at c2
                    clear hor hm hr hnx ht hnN
                    have hR0 : R < w.heap.size := HN.out.old
                    have hC0 : C < w.heap.size := HN.out.oldC
                    have hwz := HI.out.kp.size
                    have hws := HZ.out
                    have hbz : base ≤ R := HI.out.rdr.old
                    go_wp2
                    go_region_law
                      ((first
                        | (refine step_call (by rfl) 90 _ _ rfl (#[.pointer (some ⟨R, 0, none⟩), .int .i64 4096]) (by rfl) Tryz.func90 (by as_aux_lemma => kernel_rfl) (by as_aux_lemma => kernel_rfl) (HTX.out _ (by go_grown)) ?_
                           rintro e w3 ⟨rfl, hkp, hR⟩
                           refine ⟨_, rfl, ?_⟩
                           have hkp : Kp [R] wr w3 := (Kp.of_below (X := [R]) (by go_grown)).trans hkp
                           have hz3 := hkp.size
                           have HR3 := Lib.hid hR
                           have HO3 := Lib.hid (own_kp HI.out.own hkp (fun y hy e => by have := (HI.out.own.lt y e).1; simp at hy; omega))
                           have hw3 := HI.out.row.kp hkp (by simp; omega)
                           have HW3 := Lib.hid hw3
                           have q3 : w3.cell? ⟨w.heap.size + 1, 11 + j, none⟩ = some v := (by rw [hw3.cell, Array.getElem?_setIfInBounds, if_pos rfl, if_pos (by simp [OpF.row]; omega)])
                           have q4 : (w3.alloc (.cells #[.string ⟨r.1.toArray⟩] 9)).cell? ⟨w.heap.size + 1, 11 + j, none⟩ = some v := (by rw [(((Below.refl _ _).alloc (Nat.le_refl _) _ : Below w3.heap.size w3 _)).cell (p := ⟨w.heap.size + 1, 11 + j, none⟩) hw3.lt]; exact q3)
                           have HC3 := Lib.hid (HI.out.cnt.kp hkp (by simpa using HRC.out))
                           have HK3 : Hid (Kp [R, w.heap.size + 1] ws w3) := (HI.out.kp.trans (hkp.mono (fun x hx _ => by simp at hx; simp [hx])))
                           clear hkp hR hw3)
                        | (refine step_append_any _ (by rfl) (.tmp 117) (.tmp 120) _ (by rfl) ws.heap.size 9 i0 _ 1 16 Tryz.underlying24 hi0 hz0 hzi1 hzi2 rfl (by decide) v n (scells (ds.map bs)) (by rfl) (own_below HO3.out (by go_grown)) (w3.heap.size + 1) (some ⟨w3.heap.size, 0, none⟩) 1 1 (scells [⟨r.1.toArray⟩]) (by rfl) ((reads_lit w3 9 [_]).below (by go_grown)) (scells_one _) (by have := HNB.out; simp only [maxLen]; omega) (by have := HNB.out; have := HNN.out; omega) (by simp; omega) ?_
                           intro v5 w5 ho5 hg5 hat5
                           have hb5 : ∀ x, x ∈ v.ownBlock.toList → ws.heap.size ≤ x := fun x hx => (HI.out.own.lt x (by simpa using hx)).1
                           have hk5 : Kp [R, w.heap.size + 1] ws w5 := (HK3.out.later (by go_grown)).to (Kp.of_grown hg5) (fun _ h _ => h) (fun y hy hl => by have := hb5 y hy; omega)
                           have hr5 : RR w5 base R A c l r.2.1 r.2.2 := (HR3.out.later (by go_grown)).kp (Kp.of_grown hg5) (fun hx => by have := hb5 _ hx; omega) (fun y hy => by have := hb5 y hy; omega)
                           have hw5 := (HW3.out.below (by go_grown) HW3.out.lt).kp (Kp.of_grown hg5) (fun hx => by have := hb5 _ hx; omega)
                           have hc5 := (HC3.out.below (by go_grown) HC3.out.lt).kp (Kp.of_grown hg5) (fun hx => by have := hb5 _ hx; omega)
                           have q5 : w5.cell? ⟨w.heap.size + 1, 11 + j, none⟩ = some v := (by rw [hw5.cell, Array.getElem?_setIfInBounds, if_pos rfl, if_pos (by simp [OpF.row]; omega)])
                           have qf5 := hw5.frozen (11 + j)
                           obtain ⟨A5, c5, rfl⟩ := slice_form ho5
                           have HIN : Hid (InSt w base R C c A l G K f d a k0 k1 k2 k3 k4 i ws j N (n + 1) r.2 (ds ++ [r.1]) (.slice A5 (n + 1) c5) (w5.setCell ⟨w.heap.size + 1, 11 + j, none⟩ (.slice A5 (n + 1) c5))) :=
                             ⟨by rw [List.length_append, HI.out.len]; rfl, fun h => by rw [HM.out]; exact HNX.out.1 h, HNX.out.2.1, hk5.set_in (by simp) _ _, hr5.set (by omega) (by omega) _ _, own_set (by rw [List.map_append, scells_append]; exact ho5) hw5 (by decide) _ _, by have h := hw5.set_ (11 + j) (.slice A5 (n + 1) c5); rwa [Array.setIfInBounds_setIfInBounds] at h, hc5.far (p := ⟨w.heap.size + 1, 11 + j, none⟩) (by simp; omega) _, fun x hx => by rcases List.mem_append.1 hx with h | h; exact HI.out.small x h; rw [List.mem_singleton.1 h]; exact HNX.out.2.2⟩
                           clear ho5 hg5 hat5 hb5 hk5 hr5 hw5 hc5)))
                    all_goals (
                      have hnb := HNB.out
                      have hnn := HNN.out
                      go_wp2
                      go_roundw
                      case rel => exact ⟨n + 1, r.2, ds ++ [r.1], _, by have := HNN.out; omega, by go_num, HIN.out⟩
                      case measure => have := HNN.out; simp [intOf]; omega)
end Go.Proofs.YtpjjnmdfgcfnmaaGreatDoor
