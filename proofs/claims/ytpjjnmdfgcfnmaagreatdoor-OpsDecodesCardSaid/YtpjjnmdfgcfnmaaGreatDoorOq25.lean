/- ops.get: the type of watches; types that may not be read. (printed by gen_p25.py) -/
import Derived.Test.YtpjjnmdfgcfnmaaGreatDoorOqj
set_option linter.unusedVariables false
set_option linter.unusedSimpArgs false
namespace Go.Proofs.YtpjjnmdfgcfnmaaGreatDoor
open Go.RowKit

theorem gTexts_ok {l : List UInt8} {p q : Nat} {L : List (List UInt8)} (h : gTexts l p = .inl (L, q)) : L.length ≤ 1024 ∧ ∀ x ∈ L.map bs, x.size ≤ reachBytes := by
  have h1 := gGet_all (Q := fun x : List UInt8 => x.length ≤ 4096) (fun _ _ _ _ h => by have := gText_most h; omega) h
  refine ⟨by have := h1.1; omega, fun x hx => ?_⟩
  obtain ⟨y, hy, rfl⟩ := List.mem_map.1 hx
  have := h1.2 y hy
  rw [bs_size]
  unfold reachBytes
  omega
section
variable {w0 w w' : World} {B : Nat → Prop} {R c q q' : Nat} {A : Option Addr} {l : List UInt8} {f : OpF} {d a k0 k1 k2 k3 k4 i s : Sl}
theorem GSt.set_k0 (h : GSt w0 B R c A l q f d a k0 k1 k2 k3 k4 i s w) {x : List (List UInt8)} {A' : Option Addr} {c' : Nat} (ho : w.ownsRow (w0.heap.size + 2) 9 1 (.slice A' x.length c') x.length (scells (x.map bs))) (hr : x.length * 16 ≤ reachBytes) (hx : ∀ y ∈ x.map bs, y.size ≤ reachBytes) : GSt w0 B R c A l q { f with K0 := x.map bs } d a ⟨A', x.length, c'⟩ k1 k2 k3 k4 i s (w.setCell ⟨w0.heap.size + 1, 11, none⟩ (.slice A' x.length c')) := by
  obtain ⟨h1, h2, h3, h4, h5⟩ := h.set_ 11 (.slice A' x.length c')
  have h6 := h.fat.kp h5 (by simp)
  exact ⟨h1, h2, h3, h4, h.old, ⟨h6.d, h6.a, (by have h7 := (SlAt.of_own ho hr).kp h5 (by simp); simpa [strCells_eq] using h7), h6.k1, h6.k2, h6.k3, h6.k4, h6.i⟩, ⟨h.ok.t, h.ok.fl, h.ok.ve, h.ok.ct, h.ok.by_, h.ok.tl, h.ok.zx, h.ok.to, h.ok.p, h.ok.acl, h.ok.ids, hx, h.ok.k1, h.ok.k2, h.ok.k3, h.ok.k4⟩⟩
theorem GSt.set_k1 (h : GSt w0 B R c A l q f d a k0 k1 k2 k3 k4 i s w) {x : List (List UInt8)} {A' : Option Addr} {c' : Nat} (ho : w.ownsRow (w0.heap.size + 2) 9 1 (.slice A' x.length c') x.length (scells (x.map bs))) (hr : x.length * 16 ≤ reachBytes) (hx : ∀ y ∈ x.map bs, y.size ≤ reachBytes) : GSt w0 B R c A l q { f with K1 := x.map bs } d a k0 ⟨A', x.length, c'⟩ k2 k3 k4 i s (w.setCell ⟨w0.heap.size + 1, 12, none⟩ (.slice A' x.length c')) := by
  obtain ⟨h1, h2, h3, h4, h5⟩ := h.set_ 12 (.slice A' x.length c')
  have h6 := h.fat.kp h5 (by simp)
  exact ⟨h1, h2, h3, h4, h.old, ⟨h6.d, h6.a, h6.k0, (by have h7 := (SlAt.of_own ho hr).kp h5 (by simp); simpa [strCells_eq] using h7), h6.k2, h6.k3, h6.k4, h6.i⟩, ⟨h.ok.t, h.ok.fl, h.ok.ve, h.ok.ct, h.ok.by_, h.ok.tl, h.ok.zx, h.ok.to, h.ok.p, h.ok.acl, h.ok.ids, h.ok.k0, hx, h.ok.k2, h.ok.k3, h.ok.k4⟩⟩
theorem GSt.set_k2 (h : GSt w0 B R c A l q f d a k0 k1 k2 k3 k4 i s w) {x : List (List UInt8)} {A' : Option Addr} {c' : Nat} (ho : w.ownsRow (w0.heap.size + 2) 9 1 (.slice A' x.length c') x.length (scells (x.map bs))) (hr : x.length * 16 ≤ reachBytes) (hx : ∀ y ∈ x.map bs, y.size ≤ reachBytes) : GSt w0 B R c A l q { f with K2 := x.map bs } d a k0 k1 ⟨A', x.length, c'⟩ k3 k4 i s (w.setCell ⟨w0.heap.size + 1, 13, none⟩ (.slice A' x.length c')) := by
  obtain ⟨h1, h2, h3, h4, h5⟩ := h.set_ 13 (.slice A' x.length c')
  have h6 := h.fat.kp h5 (by simp)
  exact ⟨h1, h2, h3, h4, h.old, ⟨h6.d, h6.a, h6.k0, h6.k1, (by have h7 := (SlAt.of_own ho hr).kp h5 (by simp); simpa [strCells_eq] using h7), h6.k3, h6.k4, h6.i⟩, ⟨h.ok.t, h.ok.fl, h.ok.ve, h.ok.ct, h.ok.by_, h.ok.tl, h.ok.zx, h.ok.to, h.ok.p, h.ok.acl, h.ok.ids, h.ok.k0, h.ok.k1, hx, h.ok.k3, h.ok.k4⟩⟩
theorem GSt.set_k3 (h : GSt w0 B R c A l q f d a k0 k1 k2 k3 k4 i s w) {x : List (List UInt8)} {A' : Option Addr} {c' : Nat} (ho : w.ownsRow (w0.heap.size + 2) 9 1 (.slice A' x.length c') x.length (scells (x.map bs))) (hr : x.length * 16 ≤ reachBytes) (hx : ∀ y ∈ x.map bs, y.size ≤ reachBytes) : GSt w0 B R c A l q { f with K3 := x.map bs } d a k0 k1 k2 ⟨A', x.length, c'⟩ k4 i s (w.setCell ⟨w0.heap.size + 1, 14, none⟩ (.slice A' x.length c')) := by
  obtain ⟨h1, h2, h3, h4, h5⟩ := h.set_ 14 (.slice A' x.length c')
  have h6 := h.fat.kp h5 (by simp)
  exact ⟨h1, h2, h3, h4, h.old, ⟨h6.d, h6.a, h6.k0, h6.k1, h6.k2, (by have h7 := (SlAt.of_own ho hr).kp h5 (by simp); simpa [strCells_eq] using h7), h6.k4, h6.i⟩, ⟨h.ok.t, h.ok.fl, h.ok.ve, h.ok.ct, h.ok.by_, h.ok.tl, h.ok.zx, h.ok.to, h.ok.p, h.ok.acl, h.ok.ids, h.ok.k0, h.ok.k1, h.ok.k2, hx, h.ok.k4⟩⟩
theorem GSt.set_k4 (h : GSt w0 B R c A l q f d a k0 k1 k2 k3 k4 i s w) {x : List (List UInt8)} {A' : Option Addr} {c' : Nat} (ho : w.ownsRow (w0.heap.size + 2) 9 1 (.slice A' x.length c') x.length (scells (x.map bs))) (hr : x.length * 16 ≤ reachBytes) (hx : ∀ y ∈ x.map bs, y.size ≤ reachBytes) : GSt w0 B R c A l q { f with K4 := x.map bs } d a k0 k1 k2 k3 ⟨A', x.length, c'⟩ i s (w.setCell ⟨w0.heap.size + 1, 15, none⟩ (.slice A' x.length c')) := by
  obtain ⟨h1, h2, h3, h4, h5⟩ := h.set_ 15 (.slice A' x.length c')
  have h6 := h.fat.kp h5 (by simp)
  exact ⟨h1, h2, h3, h4, h.old, ⟨h6.d, h6.a, h6.k0, h6.k1, h6.k2, h6.k3, (by have h7 := (SlAt.of_own ho hr).kp h5 (by simp); simpa [strCells_eq] using h7), h6.i⟩, ⟨h.ok.t, h.ok.fl, h.ok.ve, h.ok.ct, h.ok.by_, h.ok.tl, h.ok.zx, h.ok.to, h.ok.p, h.ok.acl, h.ok.ids, h.ok.k0, h.ok.k1, h.ok.k2, h.ok.k3, hx⟩⟩
end
set_option maxRecDepth 100000 in
set_option maxHeartbeats 8000000 in
theorem get_101 (B : Nat → Prop) (R c p : Nat) (A : Option Addr) (l : List UInt8) (w : World) (cv : Value) (h : Rdr w B R A c l p) :
    Calls Tryz.prog 84 #[.pointer (some ⟨R, 0, none⟩), .int .i32 101, cv] w fun e w' => Rend B R c A l (vOpF w.heap.size) (gWat l p) w e w' := by
  obtain ⟨wa, hwa⟩ : ∃ wa, w.alloc (.cells #[.int .i32 0, .string ⟨#[]⟩, .slice none 0 0, .slice none 0 0, .int .i32 0, .int .i32 0, .bool false, .int .i64 0, .int .i64 0, .int .i64 0, .int .i64 0, .slice none 0 0, .slice none 0 0, .slice none 0 0, .slice none 0 0, .slice none 0 0, .int .i32 0, .slice none 0 0, .slice none 0 0] 29) = wa := ⟨_, rfl⟩
  have hza : wa.heap.size = w.heap.size + 1 := by rw [← hwa]; simp
  obtain ⟨w1, hw1⟩ : ∃ w1, wa.alloc (.cells ((zF 101).row nilS nilS nilS nilS nilS nilS nilS nilS nilS).toArray 29) = w1 := ⟨_, rfl⟩
  have H0 := Lib.hid (GSt.start h (t := 101) rfl hwa hw1)
  have HK : Hid (∀ W, Calls Tryz.prog 11 #[.int .i32 101] W fun e w' => e = .returned (.int .i64 1) ∧ w' = W) := fun W => by
    have h := kind_any 101 W
    rwa [show kindN 101 = 1 from by decide] at h
  clear h
  go_enter Tryz.func84, Tryz.ntmps84
  go_wp2_with (first
    | ((with_reducible show wpList _ _ _ (Oper.mk (some 7) _ _ _ _ _ :: _) _ _)
       refine wpList_newrow rfl rfl 29 rfl 7 rfl (.tmp 11) rfl rfl ((zF 101).row nilS nilS nilS nilS nilS nilS nilS nilS nilS).toArray (fun _ => rfl) (show 7 < 160 by decide) zer_op isz_29 (row_one _ _ _ _ _ _ _ _ _ _) ?_
       rw [hw1])
    | (go_at_call 11
       refine (HK.out _).mono ?_
       rintro e w2 ⟨rfl, he⟩
       obtain rfl := he.symm
       refine Hid.out ?_))
  have ht := rLong_any B R c p A l _ H0.out.rdr
  rcases h1 : gLong l p with ⟨x1, q1⟩ | ⟨er, q1⟩
  rotate_left
  · rw [h1] at ht
    have HT := Lib.hid ht
    have HGE : Hid (gWat l p = .inr (er, q1)) := gb_no h1
    clear ht h1
    refine Lib.hid ?_
    go_wp2_with (go_at_call 122; refine HT.out.mono ?_; rintro e w2 ⟨rfl, hkp, hR⟩; have HN := Lib.hid (H0.out.read hkp hR); clear hkp hR)
    exact ⟨rfl, Rend.no HGE.out HN.out.kp HN.out.rdr⟩
  rw [h1] at ht
  have HT := Lib.hid ht
  have HG1 : Hid (gWat l p = gW0 { zF 101 with zx := x1 } l q1) := gb_ev h1
  have HX := Lib.hid (gLong_wf h1)
  clear ht h1
  refine Lib.hid ?_
  go_wp2_with (go_at_call 122; refine HT.out.mono ?_; rintro e w2 ⟨⟨v, rfl, rfl⟩, hkp, hR⟩; have HN := Lib.hid (H0.out.read hkp hR); clear hkp hR; refine Hid.out ?_)
  have kc : w2.cell? ⟨w.heap.size + 1, 10, none⟩ = some (.int .i64 0) := blk_cell HN.out.blk 10 rfl
  have kf := HN.out.blk.frozen 10
  have H1 := Lib.hid (HN.out.set_zx HX.out)
  clear HT H0 HN HX
  refine Lib.hid ?_
  go_wp2
  clear kc kf
  go_loopw [69] (fun vi wr => ∃ (k : Nat) (f : OpF) (k0 k1 k2 k3 k4 : Sl) (q : Nat), k ≤ 5 ∧ vi = .int .i64 (k : Int) ∧ Hid (gWat l p = [gW0 f, gW1 f, gW2 f, gW3 f, gW4 f, gW5 f].getD k (gW5 f) l q) ∧ Hid (GSt w B R c A l q f nilS nilS k0 k1 k2 k3 k4 nilS nilS wr) ∧ Hid (k ≤ 0 → k0 = nilS) ∧ Hid (k ≤ 1 → k1 = nilS) ∧ Hid (k ≤ 2 → k2 = nilS) ∧ Hid (k ≤ 3 → k3 = nilS) ∧ Hid (k ≤ 4 → k4 = nilS)) (fun vi _ => 5 - (intOf vi).toNat)
  case atStart => exact ⟨0, _, nilS, nilS, nilS, nilS, nilS, q1, by omega, by go_num, HG1.out, H1.out, fun _ => rfl, fun _ => rfl, fun _ => rfl, fun _ => rfl, fun _ => rfl⟩
  case round =>
    clear HG1 H1
    obtain ⟨k, f, k0, k1, k2, k3, k4, q, hk, rfl, HG, HS, HZ0, HZ1, HZ2, HZ3, HZ4⟩ := hrel
    by_cases hk5 : k < 5
    · have hb : Below wr.heap.size wr wr := Below.refl _ _
      have ht : Calls Tryz.prog 123 #[.pointer (some ⟨R, 0, none⟩), .int .i64 1024, .int .i64 4, .func (.func 124) #[] #[]] wr fun e w' => Rend B R c A l (vTexts wr.heap.size) (gTexts l q) wr e w' := rGet_any B R c q A l 1024 4 124 #[] #[] (gText 4096) wr HS.out.rdr (enter_fn Tryz.func124 (by as_aux_lemma => kernel_rfl) (by as_aux_lemma => kernel_rfl)) (fun W q _ hR => rText4096_any B R c q A l W hR)
      clear hb
      rcases (by omega : k = 0 ∨ k = 1 ∨ k = 2 ∨ k = 3 ∨ k = 4) with rfl | rfl | rfl | rfl | rfl
      · have HGJ : Hid (gWat l p = gW0 f l q) := HG.out
        have HZJ := Lib.hid (HZ0.out (Nat.le_refl _))
        rcases h1 : gTexts l q with ⟨x, q2⟩ | ⟨er, q2⟩
        rotate_left
        · rw [h1] at ht
          have HT := Lib.hid ht
          have HGE : Hid (gWat l p = .inr (er, q2)) := HGJ.out.trans (gb_no h1)
          clear ht h1 HG
          go_wp2_with (go_at_call 123; refine HT.out.mono ?_; rintro e w2 ⟨rfl, hkp, hR⟩; have HN := Lib.hid (HS.out.read hkp hR); clear hkp hR)
          exact ⟨rfl, Rend.no HGE.out HN.out.kp HN.out.rdr⟩
        rw [h1] at ht
        have HT := Lib.hid ht
        have HG2 : Hid (gWat l p = gW1 { f with K0 := x.map bs } l q2) := HGJ.out.trans (gb_ev h1)
        have HX := Lib.hid (gTexts_ok h1)
        clear ht h1 HG HGJ hk hk5
        have hix : ∀ W, (Instr.indexAt 25 (.pointer (some ⟨w.heap.size + 1, 11, none⟩)) (.int .i64 0)).run Tryz.prog W = .ok (.pointer (some ⟨w.heap.size + 1, 11, none⟩)) W := fun W => by kernel_rfl
        go_wp2_with (go_at_call 123; refine HT.out.mono ?_; rintro e w2 ⟨⟨v, rfl, A', c', hve, ho⟩, hkp, hR⟩; subst hve; have HO := Lib.hid (own_base ho HS.out.size); clear ho; have HN := Lib.hid (HS.out.read hkp hR); clear hkp hR; refine Hid.out ?_)
        have kc : w2.cell? ⟨w.heap.size + 1, 11, none⟩ = some (.slice none 0 0) := blk_cell HN.out.blk 11 (by rw [HZJ.out]; rfl)
        have kf := HN.out.blk.frozen 11
        have H2 := Lib.hid (HN.out.set_k0 HO.out (by have := HX.out.1; unfold reachBytes; omega) HX.out.2)
        clear HT HN HX HO HS
        refine Lib.hid ?_
        go_wp2
        go_roundw
        case rel => exact ⟨0 + 1, _, ⟨A', x.length, c'⟩, k1, k2, k3, k4, q2, by omega, by go_num, HG2.out, H2.out, fun h => absurd h (by decide), fun _ => HZ1.out (by decide), fun _ => HZ2.out (by decide), fun _ => HZ3.out (by decide), fun _ => HZ4.out (by decide)⟩
        case measure => simp [intOf]
      · have HGJ : Hid (gWat l p = gW1 f l q) := HG.out
        have HZJ := Lib.hid (HZ1.out (Nat.le_refl _))
        rcases h1 : gTexts l q with ⟨x, q2⟩ | ⟨er, q2⟩
        rotate_left
        · rw [h1] at ht
          have HT := Lib.hid ht
          have HGE : Hid (gWat l p = .inr (er, q2)) := HGJ.out.trans (gb_no h1)
          clear ht h1 HG
          go_wp2_with (go_at_call 123; refine HT.out.mono ?_; rintro e w2 ⟨rfl, hkp, hR⟩; have HN := Lib.hid (HS.out.read hkp hR); clear hkp hR)
          exact ⟨rfl, Rend.no HGE.out HN.out.kp HN.out.rdr⟩
        rw [h1] at ht
        have HT := Lib.hid ht
        have HG2 : Hid (gWat l p = gW2 { f with K1 := x.map bs } l q2) := HGJ.out.trans (gb_ev h1)
        have HX := Lib.hid (gTexts_ok h1)
        clear ht h1 HG HGJ hk hk5
        have hix : ∀ W, (Instr.indexAt 25 (.pointer (some ⟨w.heap.size + 1, 11, none⟩)) (.int .i64 1)).run Tryz.prog W = .ok (.pointer (some ⟨w.heap.size + 1, 12, none⟩)) W := fun W => by kernel_rfl
        go_wp2_with (go_at_call 123; refine HT.out.mono ?_; rintro e w2 ⟨⟨v, rfl, A', c', hve, ho⟩, hkp, hR⟩; subst hve; have HO := Lib.hid (own_base ho HS.out.size); clear ho; have HN := Lib.hid (HS.out.read hkp hR); clear hkp hR; refine Hid.out ?_)
        have kc : w2.cell? ⟨w.heap.size + 1, 12, none⟩ = some (.slice none 0 0) := blk_cell HN.out.blk 12 (by rw [HZJ.out]; rfl)
        have kf := HN.out.blk.frozen 12
        have H2 := Lib.hid (HN.out.set_k1 HO.out (by have := HX.out.1; unfold reachBytes; omega) HX.out.2)
        clear HT HN HX HO HS
        refine Lib.hid ?_
        go_wp2
        go_roundw
        case rel => exact ⟨1 + 1, _, k0, ⟨A', x.length, c'⟩, k2, k3, k4, q2, by omega, by go_num, HG2.out, H2.out, fun h => absurd h (by decide), fun h => absurd h (by decide), fun _ => HZ2.out (by decide), fun _ => HZ3.out (by decide), fun _ => HZ4.out (by decide)⟩
        case measure => simp [intOf]
      · have HGJ : Hid (gWat l p = gW2 f l q) := HG.out
        have HZJ := Lib.hid (HZ2.out (Nat.le_refl _))
        rcases h1 : gTexts l q with ⟨x, q2⟩ | ⟨er, q2⟩
        rotate_left
        · rw [h1] at ht
          have HT := Lib.hid ht
          have HGE : Hid (gWat l p = .inr (er, q2)) := HGJ.out.trans (gb_no h1)
          clear ht h1 HG
          go_wp2_with (go_at_call 123; refine HT.out.mono ?_; rintro e w2 ⟨rfl, hkp, hR⟩; have HN := Lib.hid (HS.out.read hkp hR); clear hkp hR)
          exact ⟨rfl, Rend.no HGE.out HN.out.kp HN.out.rdr⟩
        rw [h1] at ht
        have HT := Lib.hid ht
        have HG2 : Hid (gWat l p = gW3 { f with K2 := x.map bs } l q2) := HGJ.out.trans (gb_ev h1)
        have HX := Lib.hid (gTexts_ok h1)
        clear ht h1 HG HGJ hk hk5
        have hix : ∀ W, (Instr.indexAt 25 (.pointer (some ⟨w.heap.size + 1, 11, none⟩)) (.int .i64 2)).run Tryz.prog W = .ok (.pointer (some ⟨w.heap.size + 1, 13, none⟩)) W := fun W => by kernel_rfl
        go_wp2_with (go_at_call 123; refine HT.out.mono ?_; rintro e w2 ⟨⟨v, rfl, A', c', hve, ho⟩, hkp, hR⟩; subst hve; have HO := Lib.hid (own_base ho HS.out.size); clear ho; have HN := Lib.hid (HS.out.read hkp hR); clear hkp hR; refine Hid.out ?_)
        have kc : w2.cell? ⟨w.heap.size + 1, 13, none⟩ = some (.slice none 0 0) := blk_cell HN.out.blk 13 (by rw [HZJ.out]; rfl)
        have kf := HN.out.blk.frozen 13
        have H2 := Lib.hid (HN.out.set_k2 HO.out (by have := HX.out.1; unfold reachBytes; omega) HX.out.2)
        clear HT HN HX HO HS
        refine Lib.hid ?_
        go_wp2
        go_roundw
        case rel => exact ⟨2 + 1, _, k0, k1, ⟨A', x.length, c'⟩, k3, k4, q2, by omega, by go_num, HG2.out, H2.out, fun h => absurd h (by decide), fun h => absurd h (by decide), fun h => absurd h (by decide), fun _ => HZ3.out (by decide), fun _ => HZ4.out (by decide)⟩
        case measure => simp [intOf]
      · have HGJ : Hid (gWat l p = gW3 f l q) := HG.out
        have HZJ := Lib.hid (HZ3.out (Nat.le_refl _))
        rcases h1 : gTexts l q with ⟨x, q2⟩ | ⟨er, q2⟩
        rotate_left
        · rw [h1] at ht
          have HT := Lib.hid ht
          have HGE : Hid (gWat l p = .inr (er, q2)) := HGJ.out.trans (gb_no h1)
          clear ht h1 HG
          go_wp2_with (go_at_call 123; refine HT.out.mono ?_; rintro e w2 ⟨rfl, hkp, hR⟩; have HN := Lib.hid (HS.out.read hkp hR); clear hkp hR)
          exact ⟨rfl, Rend.no HGE.out HN.out.kp HN.out.rdr⟩
        rw [h1] at ht
        have HT := Lib.hid ht
        have HG2 : Hid (gWat l p = gW4 { f with K3 := x.map bs } l q2) := HGJ.out.trans (gb_ev h1)
        have HX := Lib.hid (gTexts_ok h1)
        clear ht h1 HG HGJ hk hk5
        have hix : ∀ W, (Instr.indexAt 25 (.pointer (some ⟨w.heap.size + 1, 11, none⟩)) (.int .i64 3)).run Tryz.prog W = .ok (.pointer (some ⟨w.heap.size + 1, 14, none⟩)) W := fun W => by kernel_rfl
        go_wp2_with (go_at_call 123; refine HT.out.mono ?_; rintro e w2 ⟨⟨v, rfl, A', c', hve, ho⟩, hkp, hR⟩; subst hve; have HO := Lib.hid (own_base ho HS.out.size); clear ho; have HN := Lib.hid (HS.out.read hkp hR); clear hkp hR; refine Hid.out ?_)
        have kc : w2.cell? ⟨w.heap.size + 1, 14, none⟩ = some (.slice none 0 0) := blk_cell HN.out.blk 14 (by rw [HZJ.out]; rfl)
        have kf := HN.out.blk.frozen 14
        have H2 := Lib.hid (HN.out.set_k3 HO.out (by have := HX.out.1; unfold reachBytes; omega) HX.out.2)
        clear HT HN HX HO HS
        refine Lib.hid ?_
        go_wp2
        go_roundw
        case rel => exact ⟨3 + 1, _, k0, k1, k2, ⟨A', x.length, c'⟩, k4, q2, by omega, by go_num, HG2.out, H2.out, fun h => absurd h (by decide), fun h => absurd h (by decide), fun h => absurd h (by decide), fun h => absurd h (by decide), fun _ => HZ4.out (by decide)⟩
        case measure => simp [intOf]
      · have HGJ : Hid (gWat l p = gW4 f l q) := HG.out
        have HZJ := Lib.hid (HZ4.out (Nat.le_refl _))
        rcases h1 : gTexts l q with ⟨x, q2⟩ | ⟨er, q2⟩
        rotate_left
        · rw [h1] at ht
          have HT := Lib.hid ht
          have HGE : Hid (gWat l p = .inr (er, q2)) := HGJ.out.trans (gb_no h1)
          clear ht h1 HG
          go_wp2_with (go_at_call 123; refine HT.out.mono ?_; rintro e w2 ⟨rfl, hkp, hR⟩; have HN := Lib.hid (HS.out.read hkp hR); clear hkp hR)
          exact ⟨rfl, Rend.no HGE.out HN.out.kp HN.out.rdr⟩
        rw [h1] at ht
        have HT := Lib.hid ht
        have HG2 : Hid (gWat l p = gW5 { f with K4 := x.map bs } l q2) := HGJ.out.trans (gb_ev h1)
        have HX := Lib.hid (gTexts_ok h1)
        clear ht h1 HG HGJ hk hk5
        have hix : ∀ W, (Instr.indexAt 25 (.pointer (some ⟨w.heap.size + 1, 11, none⟩)) (.int .i64 4)).run Tryz.prog W = .ok (.pointer (some ⟨w.heap.size + 1, 15, none⟩)) W := fun W => by kernel_rfl
        go_wp2_with (go_at_call 123; refine HT.out.mono ?_; rintro e w2 ⟨⟨v, rfl, A', c', hve, ho⟩, hkp, hR⟩; subst hve; have HO := Lib.hid (own_base ho HS.out.size); clear ho; have HN := Lib.hid (HS.out.read hkp hR); clear hkp hR; refine Hid.out ?_)
        have kc : w2.cell? ⟨w.heap.size + 1, 15, none⟩ = some (.slice none 0 0) := blk_cell HN.out.blk 15 (by rw [HZJ.out]; rfl)
        have kf := HN.out.blk.frozen 15
        have H2 := Lib.hid (HN.out.set_k4 HO.out (by have := HX.out.1; unfold reachBytes; omega) HX.out.2)
        clear HT HN HX HO HS
        refine Lib.hid ?_
        go_wp2
        go_roundw
        case rel => exact ⟨4 + 1, _, k0, k1, k2, k3, ⟨A', x.length, c'⟩, q2, by omega, by go_num, HG2.out, H2.out, fun h => absurd h (by decide), fun h => absurd h (by decide), fun h => absurd h (by decide), fun h => absurd h (by decide), fun h => absurd h (by decide)⟩
        case measure => simp [intOf]
    · have hk2 : k = 5 := by omega
      subst hk2
      have HG5 : Hid (gWat l p = .inl (f, q)) := HG.out
      clear HG HZ0 HZ1 HZ2 HZ3 HZ4
      go_wp2_with (first
        | ((with_reducible show wpList _ _ _ (Oper.mk (some 78) _ _ _ _ _ :: _) _ _)
           refine wpList_load_row rfl 29 (.tmp 7) rfl (w.heap.size + 1) rfl 29 _ _ _ HS.out.blk Tryz.underlying29 rfl isz_29 ?_)
        | ((with_reducible show wpList _ _ _ (Oper.mk none (.store _ (.tmp 6) _) _ _ _ _ :: _) _ _)
           refine wpList_store_row rfl 29 (.tmp 6) (.tmp 78) rfl w.heap.size (f.row nilS nilS k0 k1 k2 k3 k4 nilS nilS).toArray rfl rfl 29 _ HS.out.res isz_29 rfl (row_one _ _ _ _ _ _ _ _ _ _) ?_
           have hfin := HS.out.fin (f.row nilS nilS k0 k1 k2 k3 k4 nilS nilS).toArray
           have hbz := cells_setRow (cs := (f.row nilS nilS k0 k1 k2 k3 k4 nilS nilS).toArray) HS.out.res
           generalize hww : World.setRow _ _ _ = wz at hfin hbz ⊢
           have HFN := Lib.hid hfin
           have HBZ := Lib.hid hbz
           clear hww hfin hbz))
      refine bodyPost_ret (results_cell_row rfl _ _ w.heap.size 29 _ _ _ rfl HBZ.out Tryz.underlying29 rfl isz_29) rfl ?_
      exact Rend.yes HG5.out ⟨nilS, nilS, k0, k1, k2, k3, k4, nilS, rfl, HFN.out.2.2, HS.out.ok⟩ HFN.out.1 HFN.out.2.1
set_option maxRecDepth 100000 in
set_option maxHeartbeats 8000000 in
theorem get_bad (B : Nat → Prop) (R c p : Nat) (A : Option Addr) (l : List UInt8) (w : World) (cv : Value) (t : Int) (ht : kindN t = 0 ∨ kindN t = 5) (hw : (Lit.int .i32 t).wf = true) (h : Rdr w B R A c l p) :
    Calls Tryz.prog 84 #[.pointer (some ⟨R, 0, none⟩), .int .i32 t, cv] w fun e w' => e = .panicked (fails R 110) ∧ Kp [R] w w' ∧ Rdr w' B R A c l p := by
  obtain ⟨wa, hwa⟩ : ∃ wa, w.alloc (.cells #[.int .i32 0, .string ⟨#[]⟩, .slice none 0 0, .slice none 0 0, .int .i32 0, .int .i32 0, .bool false, .int .i64 0, .int .i64 0, .int .i64 0, .int .i64 0, .slice none 0 0, .slice none 0 0, .slice none 0 0, .slice none 0 0, .slice none 0 0, .int .i32 0, .slice none 0 0, .slice none 0 0] 29) = wa := ⟨_, rfl⟩
  have hza : wa.heap.size = w.heap.size + 1 := by rw [← hwa]; simp
  obtain ⟨w1, hw1⟩ : ∃ w1, wa.alloc (.cells ((zF t).row nilS nilS nilS nilS nilS nilS nilS nilS nilS).toArray 29) = w1 := ⟨_, rfl⟩
  have H0 := Lib.hid (GSt.start h hw hwa hw1)
  have HK : Hid (∀ W, Calls Tryz.prog 11 #[.int .i32 t] W fun e w' => e = .returned (.int .i64 (kindN t)) ∧ w' = W) := fun W => kind_any t W
  generalize kindN t = kn at HK ht
  clear h hw
  rcases ht with rfl | rfl
  all_goals
    go_enter Tryz.func84, Tryz.ntmps84
    go_wp2_with (first
      | ((with_reducible show wpList _ _ _ (Oper.mk (some 7) _ _ _ _ _ :: _) _ _)
         refine wpList_newrow rfl rfl 29 rfl 7 rfl (.tmp 11) rfl rfl ((zF t).row nilS nilS nilS nilS nilS nilS nilS nilS nilS).toArray (fun _ => rfl) (show 7 < 160 by decide) zer_op isz_29 (row_one _ _ _ _ _ _ _ _ _ _) ?_
         rw [hw1])
      | (go_at_call 11
         refine (HK.out _).mono ?_
         rintro e w2 ⟨rfl, he⟩
         obtain rfl := he.symm)
      | (go_at_call 119; refine (fail_any B R c p A l 110 rfl _ H0.out.rdr).mono ?_; rintro e w2 ⟨rfl, he⟩; obtain rfl := he))
    exact ⟨rfl, rfl, H0.out.kp, H0.out.rdr⟩
end Go.Proofs.YtpjjnmdfgcfnmaaGreatDoor
