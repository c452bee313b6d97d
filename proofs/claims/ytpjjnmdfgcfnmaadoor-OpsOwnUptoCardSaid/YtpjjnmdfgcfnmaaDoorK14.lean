/- Part 14 of a proof: lemmas and walks. -/
import Derived.Test.YtpjjnmdfgcfnmaaDoorK10
set_option linter.unusedVariables false
set_option linter.unusedSimpArgs false
set_option maxRecDepth 100000
set_option maxHeartbeats 40000000
namespace Go.Proofs.YtpjjnmdfgcfnmaaDoor
open Go.RowKit

abbrev Oq25R1 : Array Value := #[.int .i32 0, .string ⟨#[]⟩, .slice none 0 0, .slice none 0 0, .int .i32 0, .int .i32 0, .bool false, .int .i64 0, .int .i64 0, .int .i64 0, .int .i64 0, .slice none 0 0, .slice none 0 0, .slice none 0 0, .slice none 0 0, .slice none 0 0, .int .i32 0, .slice none 0 0, .slice none 0 0]

theorem gTexts_ok {l : List UInt8} {p q : Nat} {L : List (List UInt8)} (h : gTexts l p = .inl (L, q)) : L.length ≤ 1024 ∧ ∀ x ∈ L.map bs, x.size ≤ reachBytes := by
 have h1 := gGet_all (Q := fun x : List UInt8 => x.length ≤ 4096) (fun _ _ _ _ h => by have := gText_most h; omega) h
 refine ⟨by have := h1.1; omega, fun x hx => ?_⟩
 obtain ⟨y, hy, rfl⟩ := List.mem_map.1 hx
 have := h1.2 y hy
 rw [bs_size]
 unfold reachBytes
 omega
section
variable {w0 w w' : World} {B : Nat → Prop} {R c q q' : Nat} {A : Option Addr} {l : List UInt8} {f : OpF} {d a k0 k1 k2 k3 k4 i s : Sl}
theorem GSt.set_k0 (h : GSt w0 B R c A l q f d a k0 k1 k2 k3 k4 i s w) {x : List (List UInt8)} {A' : Option Addr} {c' : Nat} (ho : w.ownsRow (w0.heap.size + 2) 9 1 (.slice A' x.length c') x.length (scells (x.map bs))) (hr : x.length * 16 ≤ reachBytes) (hx : ∀ y ∈ x.map bs, y.size ≤ reachBytes) : GSt w0 B R c A l q { f with K0 := x.map bs } d a ⟨A', x.length, c'⟩ k1 k2 k3 k4 i s (w.setCell ⟨w0.heap.size + 1, 11, none⟩ (.slice A' x.length c')) := by
 obtain ⟨h1, h2, h3, h4, h5⟩ := h.set_ 11 (.slice A' x.length c')
 have h6 := h.fat.kp h5 (by simp)
 exact ⟨h1, h2, h3, h4, h.old, ⟨h6.d, h6.a, (by have h7 := (SlAt.of_own ho hr).kp h5 (by simp); simpa [strCells_eq] using h7), h6.k1, h6.k2, h6.k3, h6.k4, h6.i⟩, ⟨h.ok.t, h.ok.fl, h.ok.ve, h.ok.ct, h.ok.by_, h.ok.tl, h.ok.zx, h.ok.to, h.ok.p, h.ok.acl, h.ok.ids, hx, h.ok.k1, h.ok.k2, h.ok.k3, h.ok.k4⟩⟩
theorem GSt.set_k1 (h : GSt w0 B R c A l q f d a k0 k1 k2 k3 k4 i s w) {x : List (List UInt8)} {A' : Option Addr} {c' : Nat} (ho : w.ownsRow (w0.heap.size + 2) 9 1 (.slice A' x.length c') x.length (scells (x.map bs))) (hr : x.length * 16 ≤ reachBytes) (hx : ∀ y ∈ x.map bs, y.size ≤ reachBytes) : GSt w0 B R c A l q { f with K1 := x.map bs } d a k0 ⟨A', x.length, c'⟩ k2 k3 k4 i s (w.setCell ⟨w0.heap.size + 1, 12, none⟩ (.slice A' x.length c')) := by
 obtain ⟨h1, h2, h3, h4, h5⟩ := h.set_ 12 (.slice A' x.length c')
 have h6 := h.fat.kp h5 (by simp)
 exact ⟨h1, h2, h3, h4, h.old, ⟨h6.d, h6.a, h6.k0, (by have h7 := (SlAt.of_own ho hr).kp h5 (by simp); simpa [strCells_eq] using h7), h6.k2, h6.k3, h6.k4, h6.i⟩, ⟨h.ok.t, h.ok.fl, h.ok.ve, h.ok.ct, h.ok.by_, h.ok.tl, h.ok.zx, h.ok.to, h.ok.p, h.ok.acl, h.ok.ids, h.ok.k0, hx, h.ok.k2, h.ok.k3, h.ok.k4⟩⟩
theorem GSt.set_k2 (h : GSt w0 B R c A l q f d a k0 k1 k2 k3 k4 i s w) {x : List (List UInt8)} {A' : Option Addr} {c' : Nat} (ho : w.ownsRow (w0.heap.size + 2) 9 1 (.slice A' x.length c') x.length (scells (x.map bs))) (hr : x.length * 16 ≤ reachBytes) (hx : ∀ y ∈ x.map bs, y.size ≤ reachBytes) : GSt w0 B R c A l q { f with K2 := x.map bs } d a k0 k1 ⟨A', x.length, c'⟩ k3 k4 i s (w.setCell ⟨w0.heap.size + 1, 13, none⟩ (.slice A' x.length c')) := by
 obtain ⟨h1, h2, h3, h4, h5⟩ := h.set_ 13 (.slice A' x.length c')
 have h6 := h.fat.kp h5 (by simp)
 exact ⟨h1, h2, h3, h4, h.old, ⟨h6.d, h6.a, h6.k0, h6.k1, (by have h7 := (SlAt.of_own ho hr).kp h5 (by simp); simpa [strCells_eq] using h7), h6.k3, h6.k4, h6.i⟩, ⟨h.ok.t, h.ok.fl, h.ok.ve, h.ok.ct, h.ok.by_, h.ok.tl, h.ok.zx, h.ok.to, h.ok.p, h.ok.acl, h.ok.ids, h.ok.k0, h.ok.k1, hx, h.ok.k3, h.ok.k4⟩⟩
theorem GSt.set_k3 (h : GSt w0 B R c A l q f d a k0 k1 k2 k3 k4 i s w) {x : List (List UInt8)} {A' : Option Addr} {c' : Nat} (ho : w.ownsRow (w0.heap.size + 2) 9 1 (.slice A' x.length c') x.length (scells (x.map bs))) (hr : x.length * 16 ≤ reachBytes) (hx : ∀ y ∈ x.map bs, y.size ≤ reachBytes) : GSt w0 B R c A l q { f with K3 := x.map bs } d a k0 k1 k2 ⟨A', x.length, c'⟩ k4 i s (w.setCell ⟨w0.heap.size + 1, 14, none⟩ (.slice A' x.length c')) := by
 obtain ⟨h1, h2, h3, h4, h5⟩ := h.set_ 14 (.slice A' x.length c')
 have h6 := h.fat.kp h5 (by simp)
 exact ⟨h1, h2, h3, h4, h.old, ⟨h6.d, h6.a, h6.k0, h6.k1, h6.k2, (by have h7 := (SlAt.of_own ho hr).kp h5 (by simp); simpa [strCells_eq] using h7), h6.k4, h6.i⟩, ⟨h.ok.t, h.ok.fl, h.ok.ve, h.ok.ct, h.ok.by_, h.ok.tl, h.ok.zx, h.ok.to, h.ok.p, h.ok.acl, h.ok.ids, h.ok.k0, h.ok.k1, h.ok.k2, hx, h.ok.k4⟩⟩
theorem GSt.set_k4 (h : GSt w0 B R c A l q f d a k0 k1 k2 k3 k4 i s w) {x : List (List UInt8)} {A' : Option Addr} {c' : Nat} (ho : w.ownsRow (w0.heap.size + 2) 9 1 (.slice A' x.length c') x.length (scells (x.map bs))) (hr : x.length * 16 ≤ reachBytes) (hx : ∀ y ∈ x.map bs, y.size ≤ reachBytes) : GSt w0 B R c A l q { f with K4 := x.map bs } d a k0 k1 k2 k3 ⟨A', x.length, c'⟩ i s (w.setCell ⟨w0.heap.size + 1, 15, none⟩ (.slice A' x.length c')) := by
 obtain ⟨h1, h2, h3, h4, h5⟩ := h.set_ 15 (.slice A' x.length c')
 have h6 := h.fat.kp h5 (by simp)
 exact ⟨h1, h2, h3, h4, h.old, ⟨h6.d, h6.a, h6.k0, h6.k1, h6.k2, h6.k3, (by have h7 := (SlAt.of_own ho hr).kp h5 (by simp); simpa [strCells_eq] using h7), h6.i⟩, ⟨h.ok.t, h.ok.fl, h.ok.ve, h.ok.ct, h.ok.by_, h.ok.tl, h.ok.zx, h.ok.to, h.ok.p, h.ok.acl, h.ok.ids, h.ok.k0, h.ok.k1, h.ok.k2, h.ok.k3, hx⟩⟩
end
theorem get_101 (B : Nat → Prop) (R c p : Nat) (A : Option Addr) (l : List UInt8) (w : World) (cv : Value) (h : Rdr w B R A c l p) :
 Calls Tryd.prog 58 #[.pointer (some ⟨R, 0, none⟩), .int .i32 101, cv] w fun e w' => Rend B R c A l (vOpF w.heap.size) (gWat l p) w e w' := by
 obtain ⟨wa, hwa⟩ := xa w (Oq25R1) 29
 have hza : wa.heap.size = w.heap.size + 1 := by rw [← hwa]; simp
 obtain ⟨w1, hw1⟩ := xa wa ((zF 101).row nilS nilS nilS nilS nilS nilS nilS nilS nilS).toArray 29
 have H0 := Hi (GSt.start h (t := 101) rfl hwa hw1)
 have HK : Hid (∀ W, Calls Tryd.prog 12 #[.int .i32 101] W fun e w' => e = .returned (.int .i64 1) ∧ w' = W) := fun W => by
  have h := kind_any 101 W
  rwa [show kindN 101 = 1 from by decide] at h
 clear h
 go_enter Tryd.func58, Tryd.ntmps58
 go_wp2_with (first
  | (with_reducible refine wpAq 7 ?_
     refine wpList_newrow rfl rfl 29 rfl 7 rfl (.tmp 11) rfl rfl ((zF 101).row nilS nilS nilS nilS nilS nilS nilS nilS nilS).toArray (fun _ => rfl) (show 7 < 160 by decide) zer_op isz_29 (row_one _ _ _ _ _ _ _ _ _ _) ?_
     rw [hw1])
  | (go_at_call 12
     refine (HK.out _).mono ?_
     rintro e w2 ⟨rfl, he⟩
     obtain rfl := he.symm
     refine Hid.out ?_))
 have ht := rLong_any B R c p A l _ H0.out.rdr
 rcases h1 : gLong l p with ⟨x1, q1⟩ | ⟨er, q1⟩
 rotate_left
 · rw [h1] at ht
   have HT := Hi ht
   have HGE : Hid (gWat l p = .inr (er, q1)) := gb_no h1
   clear ht h1
   refine Hi ?_
   go_wp2_with (go_at_call 86; refine HT.out.mono ?_; rintro e w2 ⟨rfl, hkp, hR⟩; have HN := Hi (H0.out.read hkp hR); clear hkp hR)
   exact ⟨rfl, Rend.no HGE.out HN.out.kp HN.out.rdr⟩
 rw [h1] at ht
 have HT := Hi ht
 have HG1 : Hid (gWat l p = gW0 { zF 101 with zx := x1 } l q1) := gb_ev h1
 have HX := Hi (gLong_wf h1)
 clear ht h1
 refine Hi ?_
 go_wp2_with (go_at_call 86; refine HT.out.mono ?_; rintro e w2 ⟨⟨v, rfl, rfl⟩, hkp, hR⟩; have HN := Hi (H0.out.read hkp hR); clear hkp hR; refine Hid.out ?_)
 have kc : w2.cell? ⟨w.heap.size + 1, 10, none⟩ = some (.int .i64 0) := yC HN.out.blk 10 rfl
 have kf := HN.out.blk.frozen 10
 have H1 := Hi (HN.out.set_zx HX.out)
 clear HT H0 HN HX
 refine Hi ?_
 go_wp2
 clear kc kf
 go_loopw [69] (fun vi wr => ∃ (k : Nat) (f : OpF) (k0 k1 k2 k3 k4 : Sl) (q : Nat), k ≤ 5 ∧ vi = .int .i64 (k : Int) ∧ Hid (gWat l p = [gW0 f, gW1 f, gW2 f, gW3 f, gW4 f, gW5 f].getD k (gW5 f) l q) ∧ Hid (GSt w B R c A l q f nilS nilS k0 k1 k2 k3 k4 nilS nilS wr) ∧ Hid (k ≤ 0 → k0 = nilS) ∧ Hid (k ≤ 1 → k1 = nilS) ∧ Hid (k ≤ 2 → k2 = nilS) ∧ Hid (k ≤ 3 → k3 = nilS) ∧ Hid (k ≤ 4 → k4 = nilS)) (fun vi _ => 5 - (intOf vi).toNat)
 case atStart => exact ⟨0, _, nilS, nilS, nilS, nilS, nilS, q1, by omega, by go_num, HG1.out, H1.out, fun _ => rfl, fun _ => rfl, fun _ => rfl, fun _ => rfl, fun _ => rfl⟩
 case round =>
  clear HG1 H1
  obtain ⟨k, f, k0, k1, k2, k3, k4, q, hk, rfl, HG, HS, HZ0, HZ1, HZ2, HZ3, HZ4⟩ := hrel
  by_cases hk5 : k < 5
  · have hb : Below wr.heap.size wr wr := Below.refl _ _
    have ht : Calls Tryd.prog 87 #[.pointer (some ⟨R, 0, none⟩), .int .i64 1024, .int .i64 4, .func (.func 88) #[] #[]] wr fun e w' => Rend B R c A l (vTexts wr.heap.size) (gTexts l q) wr e w' := rGet_any B R c q A l 1024 4 88 #[] #[] (gText 4096) wr HS.out.rdr (enter_fn Tryd.func88 (by kernel_rfl) (by kernel_rfl)) (fun W q _ hR => rText4096_any B R c q A l W hR)
    clear hb
    rcases (by omega : k = 0 ∨ k = 1 ∨ k = 2 ∨ k = 3 ∨ k = 4) with rfl | rfl | rfl | rfl | rfl
    · have HGJ : Hid (gWat l p = gW0 f l q) := HG.out
      have HZJ := Hi (HZ0.out zR)
      rcases h1 : gTexts l q with ⟨x, q2⟩ | ⟨er, q2⟩
      rotate_left
      · rw [h1] at ht
        have HT := Hi ht
        have HGE : Hid (gWat l p = .inr (er, q2)) := HGJ.out.trans (gb_no h1)
        clear ht h1 HG
        go_wp2_with (go_at_call 87; refine HT.out.mono ?_; rintro e w2 ⟨rfl, hkp, hR⟩; have HN := Hi (HS.out.read hkp hR); clear hkp hR)
        exact ⟨rfl, Rend.no HGE.out HN.out.kp HN.out.rdr⟩
      rw [h1] at ht
      have HT := Hi ht
      have HG2 : Hid (gWat l p = gW1 { f with K0 := x.map bs } l q2) := HGJ.out.trans (gb_ev h1)
      have HX := Hi (gTexts_ok h1)
      clear ht h1 HG HGJ hk hk5
      have hix : ∀ W, (Instr.indexAt 25 (.pointer (some ⟨w.heap.size + 1, 11, none⟩)) (.int .i64 0)).run Tryd.prog W = .ok (.pointer (some ⟨w.heap.size + 1, 11, none⟩)) W := fun W => by kernel_rfl
      go_wp2_with (go_at_call 87; refine HT.out.mono ?_; rintro e w2 ⟨⟨v, rfl, A', c', hve, ho⟩, hkp, hR⟩; subst hve; have HO := Hi (own_base ho HS.out.size); clear ho; have HN := Hi (HS.out.read hkp hR); clear hkp hR; refine Hid.out ?_)
      have kc : w2.cell? ⟨w.heap.size + 1, 11, none⟩ = some (.slice none 0 0) := yC HN.out.blk 11 (by rw [HZJ.out]; rfl)
      have kf := HN.out.blk.frozen 11
      have H2 := Hi (HN.out.set_k0 HO.out (by have := HX.out.1; unfold reachBytes; omega) HX.out.2)
      clear HT HN HX HO HS
      refine Hi ?_
      go_wp2
      go_roundw
      case rel => exact ⟨0 + 1, _, ⟨A', x.length, c'⟩, k1, k2, k3, k4, q2, by omega, by go_num, HG2.out, H2.out, fun h => absurd h (by decide), fun _ => HZ1.out (by decide), fun _ => HZ2.out (by decide), fun _ => HZ3.out (by decide), fun _ => HZ4.out (by decide)⟩
      case measure => simp [intOf]
    · have HGJ : Hid (gWat l p = gW1 f l q) := HG.out
      have HZJ := Hi (HZ1.out zR)
      rcases h1 : gTexts l q with ⟨x, q2⟩ | ⟨er, q2⟩
      rotate_left
      · rw [h1] at ht
        have HT := Hi ht
        have HGE : Hid (gWat l p = .inr (er, q2)) := HGJ.out.trans (gb_no h1)
        clear ht h1 HG
        go_wp2_with (go_at_call 87; refine HT.out.mono ?_; rintro e w2 ⟨rfl, hkp, hR⟩; have HN := Hi (HS.out.read hkp hR); clear hkp hR)
        exact ⟨rfl, Rend.no HGE.out HN.out.kp HN.out.rdr⟩
      rw [h1] at ht
      have HT := Hi ht
      have HG2 : Hid (gWat l p = gW2 { f with K1 := x.map bs } l q2) := HGJ.out.trans (gb_ev h1)
      have HX := Hi (gTexts_ok h1)
      clear ht h1 HG HGJ hk hk5
      have hix : ∀ W, (Instr.indexAt 25 (.pointer (some ⟨w.heap.size + 1, 11, none⟩)) (.int .i64 1)).run Tryd.prog W = .ok (.pointer (some ⟨w.heap.size + 1, 12, none⟩)) W := fun W => by kernel_rfl
      go_wp2_with (go_at_call 87; refine HT.out.mono ?_; rintro e w2 ⟨⟨v, rfl, A', c', hve, ho⟩, hkp, hR⟩; subst hve; have HO := Hi (own_base ho HS.out.size); clear ho; have HN := Hi (HS.out.read hkp hR); clear hkp hR; refine Hid.out ?_)
      have kc : w2.cell? ⟨w.heap.size + 1, 12, none⟩ = some (.slice none 0 0) := yC HN.out.blk 12 (by rw [HZJ.out]; rfl)
      have kf := HN.out.blk.frozen 12
      have H2 := Hi (HN.out.set_k1 HO.out (by have := HX.out.1; unfold reachBytes; omega) HX.out.2)
      clear HT HN HX HO HS
      refine Hi ?_
      go_wp2
      go_roundw
      case rel => exact ⟨1 + 1, _, k0, ⟨A', x.length, c'⟩, k2, k3, k4, q2, by omega, by go_num, HG2.out, H2.out, fun h => absurd h (by decide), fun h => absurd h (by decide), fun _ => HZ2.out (by decide), fun _ => HZ3.out (by decide), fun _ => HZ4.out (by decide)⟩
      case measure => simp [intOf]
    · have HGJ : Hid (gWat l p = gW2 f l q) := HG.out
      have HZJ := Hi (HZ2.out zR)
      rcases h1 : gTexts l q with ⟨x, q2⟩ | ⟨er, q2⟩
      rotate_left
      · rw [h1] at ht
        have HT := Hi ht
        have HGE : Hid (gWat l p = .inr (er, q2)) := HGJ.out.trans (gb_no h1)
        clear ht h1 HG
        go_wp2_with (go_at_call 87; refine HT.out.mono ?_; rintro e w2 ⟨rfl, hkp, hR⟩; have HN := Hi (HS.out.read hkp hR); clear hkp hR)
        exact ⟨rfl, Rend.no HGE.out HN.out.kp HN.out.rdr⟩
      rw [h1] at ht
      have HT := Hi ht
      have HG2 : Hid (gWat l p = gW3 { f with K2 := x.map bs } l q2) := HGJ.out.trans (gb_ev h1)
      have HX := Hi (gTexts_ok h1)
      clear ht h1 HG HGJ hk hk5
      have hix : ∀ W, (Instr.indexAt 25 (.pointer (some ⟨w.heap.size + 1, 11, none⟩)) (.int .i64 2)).run Tryd.prog W = .ok (.pointer (some ⟨w.heap.size + 1, 13, none⟩)) W := fun W => by kernel_rfl
      go_wp2_with (go_at_call 87; refine HT.out.mono ?_; rintro e w2 ⟨⟨v, rfl, A', c', hve, ho⟩, hkp, hR⟩; subst hve; have HO := Hi (own_base ho HS.out.size); clear ho; have HN := Hi (HS.out.read hkp hR); clear hkp hR; refine Hid.out ?_)
      have kc : w2.cell? ⟨w.heap.size + 1, 13, none⟩ = some (.slice none 0 0) := yC HN.out.blk 13 (by rw [HZJ.out]; rfl)
      have kf := HN.out.blk.frozen 13
      have H2 := Hi (HN.out.set_k2 HO.out (by have := HX.out.1; unfold reachBytes; omega) HX.out.2)
      clear HT HN HX HO HS
      refine Hi ?_
      go_wp2
      go_roundw
      case rel => exact ⟨2 + 1, _, k0, k1, ⟨A', x.length, c'⟩, k3, k4, q2, by omega, by go_num, HG2.out, H2.out, fun h => absurd h (by decide), fun h => absurd h (by decide), fun h => absurd h (by decide), fun _ => HZ3.out (by decide), fun _ => HZ4.out (by decide)⟩
      case measure => simp [intOf]
    · have HGJ : Hid (gWat l p = gW3 f l q) := HG.out
      have HZJ := Hi (HZ3.out zR)
      rcases h1 : gTexts l q with ⟨x, q2⟩ | ⟨er, q2⟩
      rotate_left
      · rw [h1] at ht
        have HT := Hi ht
        have HGE : Hid (gWat l p = .inr (er, q2)) := HGJ.out.trans (gb_no h1)
        clear ht h1 HG
        go_wp2_with (go_at_call 87; refine HT.out.mono ?_; rintro e w2 ⟨rfl, hkp, hR⟩; have HN := Hi (HS.out.read hkp hR); clear hkp hR)
        exact ⟨rfl, Rend.no HGE.out HN.out.kp HN.out.rdr⟩
      rw [h1] at ht
      have HT := Hi ht
      have HG2 : Hid (gWat l p = gW4 { f with K3 := x.map bs } l q2) := HGJ.out.trans (gb_ev h1)
      have HX := Hi (gTexts_ok h1)
      clear ht h1 HG HGJ hk hk5
      have hix : ∀ W, (Instr.indexAt 25 (.pointer (some ⟨w.heap.size + 1, 11, none⟩)) (.int .i64 3)).run Tryd.prog W = .ok (.pointer (some ⟨w.heap.size + 1, 14, none⟩)) W := fun W => by kernel_rfl
      go_wp2_with (go_at_call 87; refine HT.out.mono ?_; rintro e w2 ⟨⟨v, rfl, A', c', hve, ho⟩, hkp, hR⟩; subst hve; have HO := Hi (own_base ho HS.out.size); clear ho; have HN := Hi (HS.out.read hkp hR); clear hkp hR; refine Hid.out ?_)
      have kc : w2.cell? ⟨w.heap.size + 1, 14, none⟩ = some (.slice none 0 0) := yC HN.out.blk 14 (by rw [HZJ.out]; rfl)
      have kf := HN.out.blk.frozen 14
      have H2 := Hi (HN.out.set_k3 HO.out (by have := HX.out.1; unfold reachBytes; omega) HX.out.2)
      clear HT HN HX HO HS
      refine Hi ?_
      go_wp2
      go_roundw
      case rel => exact ⟨3 + 1, _, k0, k1, k2, ⟨A', x.length, c'⟩, k4, q2, by omega, by go_num, HG2.out, H2.out, fun h => absurd h (by decide), fun h => absurd h (by decide), fun h => absurd h (by decide), fun h => absurd h (by decide), fun _ => HZ4.out (by decide)⟩
      case measure => simp [intOf]
    · have HGJ : Hid (gWat l p = gW4 f l q) := HG.out
      have HZJ := Hi (HZ4.out zR)
      rcases h1 : gTexts l q with ⟨x, q2⟩ | ⟨er, q2⟩
      rotate_left
      · rw [h1] at ht
        have HT := Hi ht
        have HGE : Hid (gWat l p = .inr (er, q2)) := HGJ.out.trans (gb_no h1)
        clear ht h1 HG
        go_wp2_with (go_at_call 87; refine HT.out.mono ?_; rintro e w2 ⟨rfl, hkp, hR⟩; have HN := Hi (HS.out.read hkp hR); clear hkp hR)
        exact ⟨rfl, Rend.no HGE.out HN.out.kp HN.out.rdr⟩
      rw [h1] at ht
      have HT := Hi ht
      have HG2 : Hid (gWat l p = gW5 { f with K4 := x.map bs } l q2) := HGJ.out.trans (gb_ev h1)
      have HX := Hi (gTexts_ok h1)
      clear ht h1 HG HGJ hk hk5
      have hix : ∀ W, (Instr.indexAt 25 (.pointer (some ⟨w.heap.size + 1, 11, none⟩)) (.int .i64 4)).run Tryd.prog W = .ok (.pointer (some ⟨w.heap.size + 1, 15, none⟩)) W := fun W => by kernel_rfl
      go_wp2_with (go_at_call 87; refine HT.out.mono ?_; rintro e w2 ⟨⟨v, rfl, A', c', hve, ho⟩, hkp, hR⟩; subst hve; have HO := Hi (own_base ho HS.out.size); clear ho; have HN := Hi (HS.out.read hkp hR); clear hkp hR; refine Hid.out ?_)
      have kc : w2.cell? ⟨w.heap.size + 1, 15, none⟩ = some (.slice none 0 0) := yC HN.out.blk 15 (by rw [HZJ.out]; rfl)
      have kf := HN.out.blk.frozen 15
      have H2 := Hi (HN.out.set_k4 HO.out (by have := HX.out.1; unfold reachBytes; omega) HX.out.2)
      clear HT HN HX HO HS
      refine Hi ?_
      go_wp2
      go_roundw
      case rel => exact ⟨4 + 1, _, k0, k1, k2, k3, ⟨A', x.length, c'⟩, q2, by omega, by go_num, HG2.out, H2.out, fun h => absurd h (by decide), fun h => absurd h (by decide), fun h => absurd h (by decide), fun h => absurd h (by decide), fun h => absurd h (by decide)⟩
      case measure => simp [intOf]
  · have hk2 : k = 5 := by omega
    subst hk2
    have HG5 : Hid (gWat l p = .inl (f, q)) := HG.out
    clear HG HZ0 HZ1 HZ2 HZ3 HZ4
    go_wp2_with (first
     | (with_reducible refine wpAq 78 ?_
        refine wpList_load_row rfl 29 (.tmp 7) rfl (w.heap.size + 1) rfl 29 _ _ _ HS.out.blk zU29 rfl isz_29 ?_)
     | (with_reducible refine wpSt 6 ?_
        refine wpList_store_row rfl 29 (.tmp 6) (.tmp 78) rfl w.heap.size (f.row nilS nilS k0 k1 k2 k3 k4 nilS nilS).toArray rfl rfl 29 _ HS.out.res isz_29 rfl (row_one _ _ _ _ _ _ _ _ _ _) ?_
        have hfin := HS.out.fin (f.row nilS nilS k0 k1 k2 k3 k4 nilS nilS).toArray
        have hbz := cells_setRow (cs := (f.row nilS nilS k0 k1 k2 k3 k4 nilS nilS).toArray) HS.out.res
        generalize hww : World.setRow _ _ _ = wz at hfin hbz ⊢
        have HFN := Hi hfin
        have HBZ := Hi hbz
        clear hww hfin hbz))
    refine bodyPost_ret (results_cell_row rfl _ _ w.heap.size 29 _ _ _ rfl HBZ.out zU29 rfl isz_29) rfl ?_
    exact Rend.yes HG5.out ⟨nilS, nilS, k0, k1, k2, k3, k4, nilS, rfl, HFN.out.2.2, HS.out.ok⟩ HFN.out.1 HFN.out.2.1
theorem get_bad (B : Nat → Prop) (R c p : Nat) (A : Option Addr) (l : List UInt8) (w : World) (cv : Value) (t : Int) (ht : kindN t = 0 ∨ kindN t = 5) (hw : (Lit.int .i32 t).wf = true) (h : Rdr w B R A c l p) :
 Calls Tryd.prog 58 #[.pointer (some ⟨R, 0, none⟩), .int .i32 t, cv] w fun e w' => e = .panicked (fails R 110) ∧ Kp [R] w w' ∧ Rdr w' B R A c l p := by
 obtain ⟨wa, hwa⟩ := xa w (Oq25R1) 29
 have hza : wa.heap.size = w.heap.size + 1 := by rw [← hwa]; simp
 obtain ⟨w1, hw1⟩ := xa wa ((zF t).row nilS nilS nilS nilS nilS nilS nilS nilS nilS).toArray 29
 have H0 := Hi (GSt.start h hw hwa hw1)
 have HK : Hid (∀ W, Calls Tryd.prog 12 #[.int .i32 t] W fun e w' => e = .returned (.int .i64 (kindN t)) ∧ w' = W) := fun W => kind_any t W
 generalize kindN t = kn at HK ht
 clear h hw
 rcases ht with rfl | rfl
 all_goals
  go_enter Tryd.func58, Tryd.ntmps58
  go_wp2_with (first
   | (with_reducible refine wpAq 7 ?_
      refine wpList_newrow rfl rfl 29 rfl 7 rfl (.tmp 11) rfl rfl ((zF t).row nilS nilS nilS nilS nilS nilS nilS nilS nilS).toArray (fun _ => rfl) (show 7 < 160 by decide) zer_op isz_29 (row_one _ _ _ _ _ _ _ _ _ _) ?_
      rw [hw1])
   | (go_at_call 12
      refine (HK.out _).mono ?_
      rintro e w2 ⟨rfl, he⟩
      obtain rfl := he.symm)
   | (go_at_call 83; refine (fail_any B R c p A l 110 rfl _ H0.out.rdr).mono ?_; rintro e w2 ⟨rfl, he⟩; obtain rfl := he))
  exact ⟨rfl, rfl, H0.out.kp, H0.out.rdr⟩

theorem get_g0 (t : Int) (htt : t ∈ ([1, 15, 19] : List Int)) (B : Nat → Prop) (R c p : Nat) (A : Option Addr) (l : List UInt8) (w : World) (cv : Value) (h : Rdr w B R A c l p) :
 Calls Tryd.prog 58 #[.pointer (some ⟨R, 0, none⟩), .int .i32 t, cv] w fun e w' => Rend B R c A l (vOpF w.heap.size) (gFld t l p) w e w' := by
 have hg : gFld t l p = ((gText 4096).bind fun x1 => (gBuf 1048575).bind fun x2 => (gGet 16 12 gAcl).bind fun x3 => (gInt).bind fun x4 => Rg.ret ({ { { { zF t with p := bs x1 } with l := x2 } with L := x3 } with fl := x4 } : OpF)) l p := by
  unfold gFld
  simp only [zH, zI, or_false] at htt
  rcases htt with rfl | rfl | rfl <;> rfl
 have HG0 := Hi hg
 obtain ⟨wa, hwa⟩ := xa w #[.int .i32 0, .string ⟨#[]⟩, .slice none 0 0, .slice none 0 0, .int .i32 0, .int .i32 0, .bool false, .int .i64 0, .int .i64 0, .int .i64 0, .int .i64 0, .slice none 0 0, .slice none 0 0, .slice none 0 0, .slice none 0 0, .slice none 0 0, .int .i32 0, .slice none 0 0, .slice none 0 0] 29
 have hza : wa.heap.size = w.heap.size + 1 := by rw [← hwa]; simp
 obtain ⟨w1, hw1⟩ := xa wa ((zF t).row nilS nilS nilS nilS nilS nilS nilS nilS nilS).toArray 29
 have hwf : (Lit.int .i32 t).wf = true := by
  simp only [zH, zI, or_false] at htt
  rcases htt with rfl | rfl | rfl <;> rfl
 have H0 := Hi (GSt.start h (t := t) hwf hwa hw1)
 obtain ⟨kn, hkn⟩ : ∃ k, k = kindN t := ⟨_, rfl⟩
 have hk0 : (kn == 0) = false := by
  rw [hkn]
  simp only [zH, zI, or_false] at htt
  rcases htt with rfl | rfl | rfl <;> decide
 have hk5 : (kn == 5) = false := by
  rw [hkn]
  simp only [zH, zI, or_false] at htt
  rcases htt with rfl | rfl | rfl <;> decide
 have HK : Hid (∀ W, Calls Tryd.prog 12 #[.int .i32 t] W fun e w' => e = .returned (.int .i64 kn) ∧ w' = W) := fun W => by rw [hkn]; exact kind_any t W
 clear hkn hwf
 obtain ⟨n0, n1, n2, n3, n4, n5, n6, n7, n8, n9, n10, n11, n12, n13, n14, n15, n16, n17, n18, _⟩ := sw_all (cs := [(-10), 14, 22, 101, (-11), 11, 107, 21, 2, 13, 5, 7, 120, 3, 4, 8, 12, 106, 18]) htt rfl
 have S : ((t == 1) = true) ∨ ((t == 1) = false ∧ (t == 15) = true) ∨ ((t == 1) = false ∧ (t == 15) = false ∧ (t == 19) = true) := by
  simp only [zH, zI, or_false] at htt
  rcases htt with rfl | rfl | rfl <;> decide
 clear htt
 rcases S with s0 | ⟨s0, s1⟩ | ⟨s0, s1, s2⟩
 all_goals
  clear h hg
  go_enter Tryd.func58, Tryd.ntmps58
  go_wp2_with (first
   | (with_reducible refine wpAq 7 ?_
      refine wpList_newrow rfl rfl 29 rfl 7 rfl (.tmp 11) rfl rfl ((zF t).row nilS nilS nilS nilS nilS nilS nilS nilS nilS).toArray (fun _ => rfl) (show 7 < 160 by decide) zer_op isz_29 (row_one _ _ _ _ _ _ _ _ _ _) ?_
      rw [hw1])
   | (go_at_call 12
      refine (HK.out _).mono ?_
      rintro e w2 ⟨rfl, he⟩
      obtain rfl := he.symm
      refine Hid.out ?_))
  have ht := rText_any B R c p A l 4096 _ H0.out.rdr
  rcases h1 : (gText 4096) l p with ⟨x1, q1⟩ | ⟨er, q1⟩
  rotate_left
  · rw [h1] at ht
    have HT := Hi ht
    have HGE := Hi (HG0.out.trans (gb_no h1))
    clear ht h1
    refine Hi ?_
    go_wp2_with (go_at_call 89; refine HT.out.mono ?_; rintro e w2 ⟨rfl, hkp, hR⟩; have HN := Hi (H0.out.read hkp hR); clear hkp hR)
    exact ⟨rfl, Rend.no HGE.out HN.out.kp HN.out.rdr⟩
  rw [h1] at ht
  have HT := Hi ht
  have hg := HG0.out.trans (gb_ev h1)
  have HG1 := Hi hg
  have HX : Hid ((bs x1).size ≤ reachBytes) := by have := gText_most h1; unfold Hid reachBytes; rw [bs_size]; omega
  clear ht h1 hg HG0
  refine Hi ?_
  go_wp2_with (go_at_call 89; refine HT.out.mono ?_; rintro e w2 ⟨⟨v, rfl, rfl⟩, hkp, hR⟩; have HN := Hi (H0.out.read hkp hR); clear hkp hR; refine Hid.out ?_)
  have kc : w2.cell? ⟨w.heap.size + 1, 1, none⟩ = some (.string ⟨#[]⟩) := yC HN.out.blk 1 rfl
  have kf := HN.out.blk.frozen 1
  have H1 := Hi (HN.out.set_p (x := ⟨x1.toArray⟩) HX.out)
  clear HT H0 HN HX
  have ht := rBuffer_any B R c q1 A l 1048575 _ H1.out.rdr
  rcases h1 : (gBuf 1048575) l q1 with ⟨x2, q2⟩ | ⟨er, q2⟩
  rotate_left
  · rw [h1] at ht
    have HT := Hi ht
    have HGE := Hi (HG1.out.trans (gb_no h1))
    clear ht h1
    refine Hi ?_
    go_wp2_with (go_at_call 90; refine HT.out.mono ?_; rintro e w2 ⟨rfl, hkp, hR⟩; have HN := Hi (H1.out.read hkp hR); clear hkp hR)
    exact ⟨rfl, Rend.no HGE.out HN.out.kp HN.out.rdr⟩
  rw [h1] at ht
  have HT := Hi ht
  have hg := HG1.out.trans (gb_ev h1)
  have HG2 := Hi hg
  have HX : Hid (x2.length * 1 ≤ reachBytes) := by have := gBuf_most h1; unfold Hid reachBytes; omega
  clear ht h1 hg HG1
  refine Hi ?_
  go_wp2_with (go_at_call 90; refine HT.out.mono ?_; rintro e w3 ⟨⟨v, rfl, dA, dc, hve, ho⟩, hkp, hR⟩; subst hve; have HO := Hi (own_base ho H1.out.size); clear ho; have HN := Hi (H1.out.read hkp hR); clear hkp hR; refine Hid.out ?_)
  have kc : w3.cell? ⟨w.heap.size + 1, 2, none⟩ = some (.slice none 0 0) := yC HN.out.blk 2 rfl
  have kf := HN.out.blk.frozen 2
  have H2 := Hi (HN.out.set_d HO.out HX.out)
  clear HT H1 HN HX HO
  have ht := aclGet_any B R c q2 A l _ H2.out.rdr
  rcases h1 : (gGet 16 12 gAcl) l q2 with ⟨x3, q3⟩ | ⟨er, q3⟩
  rotate_left
  · rw [h1] at ht
    have HT := Hi ht
    have HGE := Hi (HG2.out.trans (gb_no h1))
    clear ht h1
    refine Hi ?_
    go_wp2_with (go_at_call 91; refine HT.out.mono ?_; rintro e w2 ⟨rfl, hkp, hR⟩; have HN := Hi (H2.out.read hkp hR); clear hkp hR)
    exact ⟨rfl, Rend.no HGE.out HN.out.kp HN.out.rdr⟩
  rw [h1] at ht
  have HT := Hi ht
  have hg := HG2.out.trans (gb_ev h1)
  have HG3 := Hi hg
  have HX : Hid (x3.length * 40 ≤ reachBytes) := by have := (gGet_all (Q := fun _ => True) (fun _ _ _ _ _ => trivial) h1).1; unfold Hid reachBytes; omega
  have HY : Hid (∀ y ∈ x3, (Lit.int .i32 y.1).wf = true ∧ y.2.1.size ≤ reachBytes ∧ y.2.2.size ≤ reachBytes) := fun y hy => by
   obtain ⟨y1, y2, y3⟩ := (gGet_all (Q := fun y : AclT => (Lit.int .i32 y.1).wf = true ∧ y.2.1.size ≤ 256 ∧ y.2.2.size ≤ 256) (fun _ _ _ _ h => gAcl_ok h) h1).2 y hy
   exact ⟨y1, Nat.le_trans y2 (by decide), Nat.le_trans y3 (by decide)⟩
  clear ht h1 hg HG2
  refine Hi ?_
  go_wp2_with (go_at_call 91; refine HT.out.mono ?_; rintro e w4 ⟨⟨v, rfl, aA, ac, hve, ho⟩, hkp, hR⟩; subst hve; have HO := Hi (own_base ho H2.out.size); clear ho; have HN := Hi (H2.out.read hkp hR); clear hkp hR; refine Hid.out ?_)
  have kc : w4.cell? ⟨w.heap.size + 1, 3, none⟩ = some (.slice none 0 0) := yC HN.out.blk 3 rfl
  have kf := HN.out.blk.frozen 3
  have H3 := Hi (HN.out.set_a HO.out HX.out HY.out)
  clear HT H2 HN HX HO HY
  have ht := rInt_any B R c q3 A l _ H3.out.rdr
  rcases h1 : (gInt) l q3 with ⟨x4, q4⟩ | ⟨er, q4⟩
  rotate_left
  · rw [h1] at ht
    have HT := Hi ht
    have HGE := Hi (HG3.out.trans (gb_no h1))
    clear ht h1
    refine Hi ?_
    go_wp2_with (go_at_call 29; refine HT.out.mono ?_; rintro e w2 ⟨rfl, hkp, hR⟩; have HN := Hi (H3.out.read hkp hR); clear hkp hR)
    exact ⟨rfl, Rend.no HGE.out HN.out.kp HN.out.rdr⟩
  rw [h1] at ht
  have HT := Hi ht
  have hg := HG3.out.trans (gb_ev h1)
  have HG4 := Hi hg
  have HX := Hi (gInt_wf h1)
  clear ht h1 hg HG3
  refine Hi ?_
  go_wp2_with (go_at_call 29; refine HT.out.mono ?_; rintro e w5 ⟨⟨v, rfl, rfl⟩, hkp, hR⟩; have HN := Hi (H3.out.read hkp hR); clear hkp hR; refine Hid.out ?_)
  have kc : w5.cell? ⟨w.heap.size + 1, 4, none⟩ = some (.int .i32 0) := yC HN.out.blk 4 rfl
  have kf := HN.out.blk.frozen 4
  have H4 := Hi (HN.out.set_fl HX.out)
  clear HT H3 HN HX
  refine Hi ?_
  go_wp2_with (first
   | (with_reducible refine wpAq 159 ?_
      refine wpList_load_row rfl 29 (.tmp 7) rfl (w.heap.size + 1) rfl 29 _ _ _ H4.out.blk zU29 rfl isz_29 ?_)
   | (with_reducible refine wpSt 6 ?_
      refine wpList_store_row rfl 29 (.tmp 6) (.tmp 159) rfl w.heap.size (({ { { { zF t with p := bs x1 } with l := x2 } with L := x3 } with fl := x4 } : OpF).row ⟨dA, x2.length, dc⟩ ⟨aA, x3.length, ac⟩ nilS nilS nilS nilS nilS nilS nilS).toArray rfl rfl 29 _ H4.out.res isz_29 rfl (row_one _ _ _ _ _ _ _ _ _ _) ?_
      have hfin := H4.out.fin (({ { { { zF t with p := bs x1 } with l := x2 } with L := x3 } with fl := x4 } : OpF).row ⟨dA, x2.length, dc⟩ ⟨aA, x3.length, ac⟩ nilS nilS nilS nilS nilS nilS nilS).toArray
      have hbz := cells_setRow (cs := (({ { { { zF t with p := bs x1 } with l := x2 } with L := x3 } with fl := x4 } : OpF).row ⟨dA, x2.length, dc⟩ ⟨aA, x3.length, ac⟩ nilS nilS nilS nilS nilS nilS nilS).toArray) H4.out.res
      generalize hww : World.setRow _ _ _ = wz at hfin hbz ⊢
      have HFN := Hi hfin
      have HBZ := Hi hbz
      clear hww hfin hbz))
  refine bodyPost_ret (results_cell_row rfl _ _ w.heap.size 29 _ _ _ rfl HBZ.out zU29 rfl isz_29) rfl ?_
  exact Rend.yes HG4.out ⟨⟨dA, x2.length, dc⟩, ⟨aA, x3.length, ac⟩, nilS, nilS, nilS, nilS, nilS, nilS, rfl, HFN.out.2.2, H4.out.ok⟩ HFN.out.1 HFN.out.2.1

abbrev Oqg2R1 : Array Value := #[.int .i32 0, .string ⟨#[]⟩, .slice none 0 0, .slice none 0 0, .int .i32 0, .int .i32 0, .bool false, .int .i64 0, .int .i64 0, .int .i64 0, .int .i64 0, .slice none 0 0, .slice none 0 0, .slice none 0 0, .slice none 0 0, .slice none 0 0, .int .i32 0, .slice none 0 0, .slice none 0 0]

theorem get_g1 (t : Int) (htt : t ∈ ([21] : List Int)) (B : Nat → Prop) (R c p : Nat) (A : Option Addr) (l : List UInt8) (w : World) (cv : Value) (h : Rdr w B R A c l p) :
 Calls Tryd.prog 58 #[.pointer (some ⟨R, 0, none⟩), .int .i32 t, cv] w fun e w' => Rend B R c A l (vOpF w.heap.size) (gFld t l p) w e w' := by
 have hg : gFld t l p = ((gText 4096).bind fun x1 => (gBuf 1048575).bind fun x2 => (gGet 16 12 gAcl).bind fun x3 => (gInt).bind fun x4 => (gLong).bind fun x5 => Rg.ret ({ { { { { zF t with p := bs x1 } with l := x2 } with L := x3 } with fl := x4 } with tl := x5 } : OpF)) l p := by
  unfold gFld
  simp only [zH, zI, or_false] at htt
  rcases htt with rfl <;> rfl
 have HG0 := Hi hg
 obtain ⟨wa, hwa⟩ := xa w (Oqg2R1) 29
 have hza : wa.heap.size = w.heap.size + 1 := by rw [← hwa]; simp
 obtain ⟨w1, hw1⟩ := xa wa ((zF t).row nilS nilS nilS nilS nilS nilS nilS nilS nilS).toArray 29
 have hwf : (Lit.int .i32 t).wf = true := by
  simp only [zH, zI, or_false] at htt
  rcases htt with rfl <;> rfl
 have H0 := Hi (GSt.start h (t := t) hwf hwa hw1)
 obtain ⟨kn, hkn⟩ : ∃ k, k = kindN t := ⟨_, rfl⟩
 have hk0 : (kn == 0) = false := by
  rw [hkn]
  simp only [zH, zI, or_false] at htt
  rcases htt with rfl <;> decide
 have hk5 : (kn == 5) = false := by
  rw [hkn]
  simp only [zH, zI, or_false] at htt
  rcases htt with rfl <;> decide
 have HK : Hid (∀ W, Calls Tryd.prog 12 #[.int .i32 t] W fun e w' => e = .returned (.int .i64 kn) ∧ w' = W) := fun W => by rw [hkn]; exact kind_any t W
 clear hkn hwf
 obtain ⟨n0, n1, n2, n3, n4, n5, n6, n7, n8, n9, n10, n11, n12, n13, n14, n15, n16, n17, n18, n19, n20, _⟩ := sw_all (cs := [(-10), 14, 22, 101, (-11), 11, 107, 1, 15, 19, 2, 13, 5, 7, 120, 3, 4, 8, 12, 106, 18]) htt rfl
 have S : ((t == 21) = true) := by
  simp only [zH, zI, or_false] at htt
  rcases htt with rfl <;> decide
 clear htt
 clear h hg
 go_enter Tryd.func58, Tryd.ntmps58
 go_wp2_with (first
  | (with_reducible refine wpAq 7 ?_
     refine wpList_newrow rfl rfl 29 rfl 7 rfl (.tmp 11) rfl rfl ((zF t).row nilS nilS nilS nilS nilS nilS nilS nilS nilS).toArray (fun _ => rfl) (show 7 < 160 by decide) zer_op isz_29 (row_one _ _ _ _ _ _ _ _ _ _) ?_
     rw [hw1])
  | (go_at_call 12
     refine (HK.out _).mono ?_
     rintro e w2 ⟨rfl, he⟩
     obtain rfl := he.symm
     refine Hid.out ?_))
 have ht := rText_any B R c p A l 4096 _ H0.out.rdr
 rcases h1 : (gText 4096) l p with ⟨x1, q1⟩ | ⟨er, q1⟩
 rotate_left
 · rw [h1] at ht
   have HT := Hi ht
   have HGE := Hi (HG0.out.trans (gb_no h1))
   clear ht h1
   refine Hi ?_
   go_wp2_with (go_at_call 89; refine HT.out.mono ?_; rintro e w2 ⟨rfl, hkp, hR⟩; have HN := Hi (H0.out.read hkp hR); clear hkp hR)
   exact ⟨rfl, Rend.no HGE.out HN.out.kp HN.out.rdr⟩
 rw [h1] at ht
 have HT := Hi ht
 have hg := HG0.out.trans (gb_ev h1)
 have HG1 := Hi hg
 have HX : Hid ((bs x1).size ≤ reachBytes) := by have := gText_most h1; unfold Hid reachBytes; rw [bs_size]; omega
 clear ht h1 hg HG0
 refine Hi ?_
 go_wp2_with (go_at_call 89; refine HT.out.mono ?_; rintro e w2 ⟨⟨v, rfl, rfl⟩, hkp, hR⟩; have HN := Hi (H0.out.read hkp hR); clear hkp hR; refine Hid.out ?_)
 have kc : w2.cell? ⟨w.heap.size + 1, 1, none⟩ = some (.string ⟨#[]⟩) := yC HN.out.blk 1 rfl
 have kf := HN.out.blk.frozen 1
 have H1 := Hi (HN.out.set_p (x := ⟨x1.toArray⟩) HX.out)
 clear HT H0 HN HX
 have ht := rBuffer_any B R c q1 A l 1048575 _ H1.out.rdr
 rcases h1 : (gBuf 1048575) l q1 with ⟨x2, q2⟩ | ⟨er, q2⟩
 rotate_left
 · rw [h1] at ht
   have HT := Hi ht
   have HGE := Hi (HG1.out.trans (gb_no h1))
   clear ht h1
   refine Hi ?_
   go_wp2_with (go_at_call 90; refine HT.out.mono ?_; rintro e w2 ⟨rfl, hkp, hR⟩; have HN := Hi (H1.out.read hkp hR); clear hkp hR)
   exact ⟨rfl, Rend.no HGE.out HN.out.kp HN.out.rdr⟩
 rw [h1] at ht
 have HT := Hi ht
 have hg := HG1.out.trans (gb_ev h1)
 have HG2 := Hi hg
 have HX : Hid (x2.length * 1 ≤ reachBytes) := by have := gBuf_most h1; unfold Hid reachBytes; omega
 clear ht h1 hg HG1
 refine Hi ?_
 go_wp2_with (go_at_call 90; refine HT.out.mono ?_; rintro e w3 ⟨⟨v, rfl, dA, dc, hve, ho⟩, hkp, hR⟩; subst hve; have HO := Hi (own_base ho H1.out.size); clear ho; have HN := Hi (H1.out.read hkp hR); clear hkp hR; refine Hid.out ?_)
 have kc : w3.cell? ⟨w.heap.size + 1, 2, none⟩ = some (.slice none 0 0) := yC HN.out.blk 2 rfl
 have kf := HN.out.blk.frozen 2
 have H2 := Hi (HN.out.set_d HO.out HX.out)
 clear HT H1 HN HX HO
 have ht := aclGet_any B R c q2 A l _ H2.out.rdr
 rcases h1 : (gGet 16 12 gAcl) l q2 with ⟨x3, q3⟩ | ⟨er, q3⟩
 rotate_left
 · rw [h1] at ht
   have HT := Hi ht
   have HGE := Hi (HG2.out.trans (gb_no h1))
   clear ht h1
   refine Hi ?_
   go_wp2_with (go_at_call 91; refine HT.out.mono ?_; rintro e w2 ⟨rfl, hkp, hR⟩; have HN := Hi (H2.out.read hkp hR); clear hkp hR)
   exact ⟨rfl, Rend.no HGE.out HN.out.kp HN.out.rdr⟩
 rw [h1] at ht
 have HT := Hi ht
 have hg := HG2.out.trans (gb_ev h1)
 have HG3 := Hi hg
 have HX : Hid (x3.length * 40 ≤ reachBytes) := by have := (gGet_all (Q := fun _ => True) (fun _ _ _ _ _ => trivial) h1).1; unfold Hid reachBytes; omega
 have HY : Hid (∀ y ∈ x3, (Lit.int .i32 y.1).wf = true ∧ y.2.1.size ≤ reachBytes ∧ y.2.2.size ≤ reachBytes) := fun y hy => by
  obtain ⟨y1, y2, y3⟩ := (gGet_all (Q := fun y : AclT => (Lit.int .i32 y.1).wf = true ∧ y.2.1.size ≤ 256 ∧ y.2.2.size ≤ 256) (fun _ _ _ _ h => gAcl_ok h) h1).2 y hy
  exact ⟨y1, Nat.le_trans y2 (by decide), Nat.le_trans y3 (by decide)⟩
 clear ht h1 hg HG2
 refine Hi ?_
 go_wp2_with (go_at_call 91; refine HT.out.mono ?_; rintro e w4 ⟨⟨v, rfl, aA, ac, hve, ho⟩, hkp, hR⟩; subst hve; have HO := Hi (own_base ho H2.out.size); clear ho; have HN := Hi (H2.out.read hkp hR); clear hkp hR; refine Hid.out ?_)
 have kc : w4.cell? ⟨w.heap.size + 1, 3, none⟩ = some (.slice none 0 0) := yC HN.out.blk 3 rfl
 have kf := HN.out.blk.frozen 3
 have H3 := Hi (HN.out.set_a HO.out HX.out HY.out)
 clear HT H2 HN HX HO HY
 have ht := rInt_any B R c q3 A l _ H3.out.rdr
 rcases h1 : (gInt) l q3 with ⟨x4, q4⟩ | ⟨er, q4⟩
 rotate_left
 · rw [h1] at ht
   have HT := Hi ht
   have HGE := Hi (HG3.out.trans (gb_no h1))
   clear ht h1
   refine Hi ?_
   go_wp2_with (go_at_call 29; refine HT.out.mono ?_; rintro e w2 ⟨rfl, hkp, hR⟩; have HN := Hi (H3.out.read hkp hR); clear hkp hR)
   exact ⟨rfl, Rend.no HGE.out HN.out.kp HN.out.rdr⟩
 rw [h1] at ht
 have HT := Hi ht
 have hg := HG3.out.trans (gb_ev h1)
 have HG4 := Hi hg
 have HX := Hi (gInt_wf h1)
 clear ht h1 hg HG3
 refine Hi ?_
 go_wp2_with (go_at_call 29; refine HT.out.mono ?_; rintro e w5 ⟨⟨v, rfl, rfl⟩, hkp, hR⟩; have HN := Hi (H3.out.read hkp hR); clear hkp hR; refine Hid.out ?_)
 have kc : w5.cell? ⟨w.heap.size + 1, 4, none⟩ = some (.int .i32 0) := yC HN.out.blk 4 rfl
 have kf := HN.out.blk.frozen 4
 have H4 := Hi (HN.out.set_fl HX.out)
 clear HT H3 HN HX
 have ht := rLong_any B R c q4 A l _ H4.out.rdr
 rcases h1 : (gLong) l q4 with ⟨x5, q5⟩ | ⟨er, q5⟩
 rotate_left
 · rw [h1] at ht
   have HT := Hi ht
   have HGE := Hi (HG4.out.trans (gb_no h1))
   clear ht h1
   refine Hi ?_
   go_wp2_with (go_at_call 86; refine HT.out.mono ?_; rintro e w2 ⟨rfl, hkp, hR⟩; have HN := Hi (H4.out.read hkp hR); clear hkp hR)
   exact ⟨rfl, Rend.no HGE.out HN.out.kp HN.out.rdr⟩
 rw [h1] at ht
 have HT := Hi ht
 have hg := HG4.out.trans (gb_ev h1)
 have HG5 := Hi hg
 have HX := Hi (gLong_wf h1)
 clear ht h1 hg HG4
 refine Hi ?_
 go_wp2_with (go_at_call 86; refine HT.out.mono ?_; rintro e w6 ⟨⟨v, rfl, rfl⟩, hkp, hR⟩; have HN := Hi (H4.out.read hkp hR); clear hkp hR; refine Hid.out ?_)
 have kc : w6.cell? ⟨w.heap.size + 1, 9, none⟩ = some (.int .i64 0) := yC HN.out.blk 9 rfl
 have kf := HN.out.blk.frozen 9
 have H5 := Hi (HN.out.set_tl HX.out)
 clear HT H4 HN HX
 refine Hi ?_
 go_wp2_with (first
  | (with_reducible refine wpAq 159 ?_
     refine wpList_load_row rfl 29 (.tmp 7) rfl (w.heap.size + 1) rfl 29 _ _ _ H5.out.blk zU29 rfl isz_29 ?_)
  | (with_reducible refine wpSt 6 ?_
     refine wpList_store_row rfl 29 (.tmp 6) (.tmp 159) rfl w.heap.size (({ { { { { zF t with p := bs x1 } with l := x2 } with L := x3 } with fl := x4 } with tl := x5 } : OpF).row ⟨dA, x2.length, dc⟩ ⟨aA, x3.length, ac⟩ nilS nilS nilS nilS nilS nilS nilS).toArray rfl rfl 29 _ H5.out.res isz_29 rfl (row_one _ _ _ _ _ _ _ _ _ _) ?_
     have hfin := H5.out.fin (({ { { { { zF t with p := bs x1 } with l := x2 } with L := x3 } with fl := x4 } with tl := x5 } : OpF).row ⟨dA, x2.length, dc⟩ ⟨aA, x3.length, ac⟩ nilS nilS nilS nilS nilS nilS nilS).toArray
     have hbz := cells_setRow (cs := (({ { { { { zF t with p := bs x1 } with l := x2 } with L := x3 } with fl := x4 } with tl := x5 } : OpF).row ⟨dA, x2.length, dc⟩ ⟨aA, x3.length, ac⟩ nilS nilS nilS nilS nilS nilS nilS).toArray) H5.out.res
     generalize hww : World.setRow _ _ _ = wz at hfin hbz ⊢
     have HFN := Hi hfin
     have HBZ := Hi hbz
     clear hww hfin hbz))
 refine bodyPost_ret (results_cell_row rfl _ _ w.heap.size 29 _ _ _ rfl HBZ.out zU29 rfl isz_29) rfl ?_
 exact Rend.yes HG5.out ⟨⟨dA, x2.length, dc⟩, ⟨aA, x3.length, ac⟩, nilS, nilS, nilS, nilS, nilS, nilS, rfl, HFN.out.2.2, H5.out.ok⟩ HFN.out.1 HFN.out.2.1
theorem get_g3 (t : Int) (htt : t ∈ ([5] : List Int)) (B : Nat → Prop) (R c p : Nat) (A : Option Addr) (l : List UInt8) (w : World) (cv : Value) (h : Rdr w B R A c l p) :
 Calls Tryd.prog 58 #[.pointer (some ⟨R, 0, none⟩), .int .i32 t, cv] w fun e w' => Rend B R c A l (vOpF w.heap.size) (gFld t l p) w e w' := by
 have hg : gFld t l p = ((gText 4096).bind fun x1 => (gBuf 1048575).bind fun x2 => (gInt).bind fun x3 => Rg.ret ({ { { zF t with p := bs x1 } with l := x2 } with ve := x3 } : OpF)) l p := by
  unfold gFld
  simp only [zH, zI, or_false] at htt
  rcases htt with rfl <;> rfl
 have HG0 := Hi hg
 obtain ⟨wa, hwa⟩ := xa w (Oqg2R1) 29
 have hza : wa.heap.size = w.heap.size + 1 := by rw [← hwa]; simp
 obtain ⟨w1, hw1⟩ := xa wa ((zF t).row nilS nilS nilS nilS nilS nilS nilS nilS nilS).toArray 29
 have hwf : (Lit.int .i32 t).wf = true := by
  simp only [zH, zI, or_false] at htt
  rcases htt with rfl <;> rfl
 have H0 := Hi (GSt.start h (t := t) hwf hwa hw1)
 obtain ⟨kn, hkn⟩ : ∃ k, k = kindN t := ⟨_, rfl⟩
 have hk0 : (kn == 0) = false := by
  rw [hkn]
  simp only [zH, zI, or_false] at htt
  rcases htt with rfl <;> decide
 have hk5 : (kn == 5) = false := by
  rw [hkn]
  simp only [zH, zI, or_false] at htt
  rcases htt with rfl <;> decide
 have HK : Hid (∀ W, Calls Tryd.prog 12 #[.int .i32 t] W fun e w' => e = .returned (.int .i64 kn) ∧ w' = W) := fun W => by rw [hkn]; exact kind_any t W
 clear hkn hwf
 obtain ⟨n0, n1, n2, n3, n4, n5, n6, n7, n8, n9, n10, n11, n12, n13, n14, n15, n16, n17, n18, n19, n20, _⟩ := sw_all (cs := [(-10), 14, 22, 101, (-11), 11, 107, 1, 15, 19, 21, 2, 13, 7, 120, 3, 4, 8, 12, 106, 18]) htt rfl
 have S : ((t == 5) = true) := by
  simp only [zH, zI, or_false] at htt
  rcases htt with rfl <;> decide
 clear htt
 clear h hg
 go_enter Tryd.func58, Tryd.ntmps58
 go_wp2_with (first
  | (with_reducible refine wpAq 7 ?_
     refine wpList_newrow rfl rfl 29 rfl 7 rfl (.tmp 11) rfl rfl ((zF t).row nilS nilS nilS nilS nilS nilS nilS nilS nilS).toArray (fun _ => rfl) (show 7 < 160 by decide) zer_op isz_29 (row_one _ _ _ _ _ _ _ _ _ _) ?_
     rw [hw1])
  | (go_at_call 12
     refine (HK.out _).mono ?_
     rintro e w2 ⟨rfl, he⟩
     obtain rfl := he.symm
     refine Hid.out ?_))
 have ht := rText_any B R c p A l 4096 _ H0.out.rdr
 rcases h1 : (gText 4096) l p with ⟨x1, q1⟩ | ⟨er, q1⟩
 rotate_left
 · rw [h1] at ht
   have HT := Hi ht
   have HGE := Hi (HG0.out.trans (gb_no h1))
   clear ht h1
   refine Hi ?_
   go_wp2_with (go_at_call 89; refine HT.out.mono ?_; rintro e w2 ⟨rfl, hkp, hR⟩; have HN := Hi (H0.out.read hkp hR); clear hkp hR)
   exact ⟨rfl, Rend.no HGE.out HN.out.kp HN.out.rdr⟩
 rw [h1] at ht
 have HT := Hi ht
 have hg := HG0.out.trans (gb_ev h1)
 have HG1 := Hi hg
 have HX : Hid ((bs x1).size ≤ reachBytes) := by have := gText_most h1; unfold Hid reachBytes; rw [bs_size]; omega
 clear ht h1 hg HG0
 refine Hi ?_
 go_wp2_with (go_at_call 89; refine HT.out.mono ?_; rintro e w2 ⟨⟨v, rfl, rfl⟩, hkp, hR⟩; have HN := Hi (H0.out.read hkp hR); clear hkp hR; refine Hid.out ?_)
 have kc : w2.cell? ⟨w.heap.size + 1, 1, none⟩ = some (.string ⟨#[]⟩) := yC HN.out.blk 1 rfl
 have kf := HN.out.blk.frozen 1
 have H1 := Hi (HN.out.set_p (x := ⟨x1.toArray⟩) HX.out)
 clear HT H0 HN HX
 have ht := rBuffer_any B R c q1 A l 1048575 _ H1.out.rdr
 rcases h1 : (gBuf 1048575) l q1 with ⟨x2, q2⟩ | ⟨er, q2⟩
 rotate_left
 · rw [h1] at ht
   have HT := Hi ht
   have HGE := Hi (HG1.out.trans (gb_no h1))
   clear ht h1
   refine Hi ?_
   go_wp2_with (go_at_call 90; refine HT.out.mono ?_; rintro e w2 ⟨rfl, hkp, hR⟩; have HN := Hi (H1.out.read hkp hR); clear hkp hR)
   exact ⟨rfl, Rend.no HGE.out HN.out.kp HN.out.rdr⟩
 rw [h1] at ht
 have HT := Hi ht
 have hg := HG1.out.trans (gb_ev h1)
 have HG2 := Hi hg
 have HX : Hid (x2.length * 1 ≤ reachBytes) := by have := gBuf_most h1; unfold Hid reachBytes; omega
 clear ht h1 hg HG1
 refine Hi ?_
 go_wp2_with (go_at_call 90; refine HT.out.mono ?_; rintro e w3 ⟨⟨v, rfl, dA, dc, hve, ho⟩, hkp, hR⟩; subst hve; have HO := Hi (own_base ho H1.out.size); clear ho; have HN := Hi (H1.out.read hkp hR); clear hkp hR; refine Hid.out ?_)
 have kc : w3.cell? ⟨w.heap.size + 1, 2, none⟩ = some (.slice none 0 0) := yC HN.out.blk 2 rfl
 have kf := HN.out.blk.frozen 2
 have H2 := Hi (HN.out.set_d HO.out HX.out)
 clear HT H1 HN HX HO
 have ht := rInt_any B R c q2 A l _ H2.out.rdr
 rcases h1 : (gInt) l q2 with ⟨x3, q3⟩ | ⟨er, q3⟩
 rotate_left
 · rw [h1] at ht
   have HT := Hi ht
   have HGE := Hi (HG2.out.trans (gb_no h1))
   clear ht h1
   refine Hi ?_
   go_wp2_with (go_at_call 29; refine HT.out.mono ?_; rintro e w2 ⟨rfl, hkp, hR⟩; have HN := Hi (H2.out.read hkp hR); clear hkp hR)
   exact ⟨rfl, Rend.no HGE.out HN.out.kp HN.out.rdr⟩
 rw [h1] at ht
 have HT := Hi ht
 have hg := HG2.out.trans (gb_ev h1)
 have HG3 := Hi hg
 have HX := Hi (gInt_wf h1)
 clear ht h1 hg HG2
 refine Hi ?_
 go_wp2_with (go_at_call 29; refine HT.out.mono ?_; rintro e w4 ⟨⟨v, rfl, rfl⟩, hkp, hR⟩; have HN := Hi (H2.out.read hkp hR); clear hkp hR; refine Hid.out ?_)
 have kc : w4.cell? ⟨w.heap.size + 1, 5, none⟩ = some (.int .i32 0) := yC HN.out.blk 5 rfl
 have kf := HN.out.blk.frozen 5
 have H3 := Hi (HN.out.set_ve HX.out)
 clear HT H2 HN HX
 refine Hi ?_
 go_wp2_with (first
  | (with_reducible refine wpAq 159 ?_
     refine wpList_load_row rfl 29 (.tmp 7) rfl (w.heap.size + 1) rfl 29 _ _ _ H3.out.blk zU29 rfl isz_29 ?_)
  | (with_reducible refine wpSt 6 ?_
     refine wpList_store_row rfl 29 (.tmp 6) (.tmp 159) rfl w.heap.size (({ { { zF t with p := bs x1 } with l := x2 } with ve := x3 } : OpF).row ⟨dA, x2.length, dc⟩ nilS nilS nilS nilS nilS nilS nilS nilS).toArray rfl rfl 29 _ H3.out.res isz_29 rfl (row_one _ _ _ _ _ _ _ _ _ _) ?_
     have hfin := H3.out.fin (({ { { zF t with p := bs x1 } with l := x2 } with ve := x3 } : OpF).row ⟨dA, x2.length, dc⟩ nilS nilS nilS nilS nilS nilS nilS nilS).toArray
     have hbz := cells_setRow (cs := (({ { { zF t with p := bs x1 } with l := x2 } with ve := x3 } : OpF).row ⟨dA, x2.length, dc⟩ nilS nilS nilS nilS nilS nilS nilS nilS).toArray) H3.out.res
     generalize hww : World.setRow _ _ _ = wz at hfin hbz ⊢
     have HFN := Hi hfin
     have HBZ := Hi hbz
     clear hww hfin hbz))
 refine bodyPost_ret (results_cell_row rfl _ _ w.heap.size 29 _ _ _ rfl HBZ.out zU29 rfl isz_29) rfl ?_
 exact Rend.yes HG3.out ⟨⟨dA, x2.length, dc⟩, nilS, nilS, nilS, nilS, nilS, nilS, nilS, rfl, HFN.out.2.2, H3.out.ok⟩ HFN.out.1 HFN.out.2.1
theorem get_g4 (t : Int) (htt : t ∈ ([7] : List Int)) (B : Nat → Prop) (R c p : Nat) (A : Option Addr) (l : List UInt8) (w : World) (cv : Value) (h : Rdr w B R A c l p) :
 Calls Tryd.prog 58 #[.pointer (some ⟨R, 0, none⟩), .int .i32 t, cv] w fun e w' => Rend B R c A l (vOpF w.heap.size) (gFld t l p) w e w' := by
 have hg : gFld t l p = ((gText 4096).bind fun x1 => (gGet 16 12 gAcl).bind fun x2 => (gInt).bind fun x3 => Rg.ret ({ { { zF t with p := bs x1 } with L := x2 } with ve := x3 } : OpF)) l p := by
  unfold gFld
  simp only [zH, zI, or_false] at htt
  rcases htt with rfl <;> rfl
 have HG0 := Hi hg
 obtain ⟨wa, hwa⟩ := xa w (Oqg2R1) 29
 have hza : wa.heap.size = w.heap.size + 1 := by rw [← hwa]; simp
 obtain ⟨w1, hw1⟩ := xa wa ((zF t).row nilS nilS nilS nilS nilS nilS nilS nilS nilS).toArray 29
 have hwf : (Lit.int .i32 t).wf = true := by
  simp only [zH, zI, or_false] at htt
  rcases htt with rfl <;> rfl
 have H0 := Hi (GSt.start h (t := t) hwf hwa hw1)
 obtain ⟨kn, hkn⟩ : ∃ k, k = kindN t := ⟨_, rfl⟩
 have hk0 : (kn == 0) = false := by
  rw [hkn]
  simp only [zH, zI, or_false] at htt
  rcases htt with rfl <;> decide
 have hk5 : (kn == 5) = false := by
  rw [hkn]
  simp only [zH, zI, or_false] at htt
  rcases htt with rfl <;> decide
 have HK : Hid (∀ W, Calls Tryd.prog 12 #[.int .i32 t] W fun e w' => e = .returned (.int .i64 kn) ∧ w' = W) := fun W => by rw [hkn]; exact kind_any t W
 clear hkn hwf
 obtain ⟨n0, n1, n2, n3, n4, n5, n6, n7, n8, n9, n10, n11, n12, n13, n14, n15, n16, n17, n18, n19, n20, _⟩ := sw_all (cs := [(-10), 14, 22, 101, (-11), 11, 107, 1, 15, 19, 21, 2, 13, 5, 120, 3, 4, 8, 12, 106, 18]) htt rfl
 have S : ((t == 7) = true) := by
  simp only [zH, zI, or_false] at htt
  rcases htt with rfl <;> decide
 clear htt
 clear h hg
 go_enter Tryd.func58, Tryd.ntmps58
 go_wp2_with (first
  | (with_reducible refine wpAq 7 ?_
     refine wpList_newrow rfl rfl 29 rfl 7 rfl (.tmp 11) rfl rfl ((zF t).row nilS nilS nilS nilS nilS nilS nilS nilS nilS).toArray (fun _ => rfl) (show 7 < 160 by decide) zer_op isz_29 (row_one _ _ _ _ _ _ _ _ _ _) ?_
     rw [hw1])
  | (go_at_call 12
     refine (HK.out _).mono ?_
     rintro e w2 ⟨rfl, he⟩
     obtain rfl := he.symm
     refine Hid.out ?_))
 have ht := rText_any B R c p A l 4096 _ H0.out.rdr
 rcases h1 : (gText 4096) l p with ⟨x1, q1⟩ | ⟨er, q1⟩
 rotate_left
 · rw [h1] at ht
   have HT := Hi ht
   have HGE := Hi (HG0.out.trans (gb_no h1))
   clear ht h1
   refine Hi ?_
   go_wp2_with (go_at_call 89; refine HT.out.mono ?_; rintro e w2 ⟨rfl, hkp, hR⟩; have HN := Hi (H0.out.read hkp hR); clear hkp hR)
   exact ⟨rfl, Rend.no HGE.out HN.out.kp HN.out.rdr⟩
 rw [h1] at ht
 have HT := Hi ht
 have hg := HG0.out.trans (gb_ev h1)
 have HG1 := Hi hg
 have HX : Hid ((bs x1).size ≤ reachBytes) := by have := gText_most h1; unfold Hid reachBytes; rw [bs_size]; omega
 clear ht h1 hg HG0
 refine Hi ?_
 go_wp2_with (go_at_call 89; refine HT.out.mono ?_; rintro e w2 ⟨⟨v, rfl, rfl⟩, hkp, hR⟩; have HN := Hi (H0.out.read hkp hR); clear hkp hR; refine Hid.out ?_)
 have kc : w2.cell? ⟨w.heap.size + 1, 1, none⟩ = some (.string ⟨#[]⟩) := yC HN.out.blk 1 rfl
 have kf := HN.out.blk.frozen 1
 have H1 := Hi (HN.out.set_p (x := ⟨x1.toArray⟩) HX.out)
 clear HT H0 HN HX
 have ht := aclGet_any B R c q1 A l _ H1.out.rdr
 rcases h1 : (gGet 16 12 gAcl) l q1 with ⟨x2, q2⟩ | ⟨er, q2⟩
 rotate_left
 · rw [h1] at ht
   have HT := Hi ht
   have HGE := Hi (HG1.out.trans (gb_no h1))
   clear ht h1
   refine Hi ?_
   go_wp2_with (go_at_call 91; refine HT.out.mono ?_; rintro e w2 ⟨rfl, hkp, hR⟩; have HN := Hi (H1.out.read hkp hR); clear hkp hR)
   exact ⟨rfl, Rend.no HGE.out HN.out.kp HN.out.rdr⟩
 rw [h1] at ht
 have HT := Hi ht
 have hg := HG1.out.trans (gb_ev h1)
 have HG2 := Hi hg
 have HX : Hid (x2.length * 40 ≤ reachBytes) := by have := (gGet_all (Q := fun _ => True) (fun _ _ _ _ _ => trivial) h1).1; unfold Hid reachBytes; omega
 have HY : Hid (∀ y ∈ x2, (Lit.int .i32 y.1).wf = true ∧ y.2.1.size ≤ reachBytes ∧ y.2.2.size ≤ reachBytes) := fun y hy => by
  obtain ⟨y1, y2, y3⟩ := (gGet_all (Q := fun y : AclT => (Lit.int .i32 y.1).wf = true ∧ y.2.1.size ≤ 256 ∧ y.2.2.size ≤ 256) (fun _ _ _ _ h => gAcl_ok h) h1).2 y hy
  exact ⟨y1, Nat.le_trans y2 (by decide), Nat.le_trans y3 (by decide)⟩
 clear ht h1 hg HG1
 refine Hi ?_
 go_wp2_with (go_at_call 91; refine HT.out.mono ?_; rintro e w3 ⟨⟨v, rfl, aA, ac, hve, ho⟩, hkp, hR⟩; subst hve; have HO := Hi (own_base ho H1.out.size); clear ho; have HN := Hi (H1.out.read hkp hR); clear hkp hR; refine Hid.out ?_)
 have kc : w3.cell? ⟨w.heap.size + 1, 3, none⟩ = some (.slice none 0 0) := yC HN.out.blk 3 rfl
 have kf := HN.out.blk.frozen 3
 have H2 := Hi (HN.out.set_a HO.out HX.out HY.out)
 clear HT H1 HN HX HO HY
 have ht := rInt_any B R c q2 A l _ H2.out.rdr
 rcases h1 : (gInt) l q2 with ⟨x3, q3⟩ | ⟨er, q3⟩
 rotate_left
 · rw [h1] at ht
   have HT := Hi ht
   have HGE := Hi (HG2.out.trans (gb_no h1))
   clear ht h1
   refine Hi ?_
   go_wp2_with (go_at_call 29; refine HT.out.mono ?_; rintro e w2 ⟨rfl, hkp, hR⟩; have HN := Hi (H2.out.read hkp hR); clear hkp hR)
   exact ⟨rfl, Rend.no HGE.out HN.out.kp HN.out.rdr⟩
 rw [h1] at ht
 have HT := Hi ht
 have hg := HG2.out.trans (gb_ev h1)
 have HG3 := Hi hg
 have HX := Hi (gInt_wf h1)
 clear ht h1 hg HG2
 refine Hi ?_
 go_wp2_with (go_at_call 29; refine HT.out.mono ?_; rintro e w4 ⟨⟨v, rfl, rfl⟩, hkp, hR⟩; have HN := Hi (H2.out.read hkp hR); clear hkp hR; refine Hid.out ?_)
 have kc : w4.cell? ⟨w.heap.size + 1, 5, none⟩ = some (.int .i32 0) := yC HN.out.blk 5 rfl
 have kf := HN.out.blk.frozen 5
 have H3 := Hi (HN.out.set_ve HX.out)
 clear HT H2 HN HX
 refine Hi ?_
 go_wp2_with (first
  | (with_reducible refine wpAq 159 ?_
     refine wpList_load_row rfl 29 (.tmp 7) rfl (w.heap.size + 1) rfl 29 _ _ _ H3.out.blk zU29 rfl isz_29 ?_)
  | (with_reducible refine wpSt 6 ?_
     refine wpList_store_row rfl 29 (.tmp 6) (.tmp 159) rfl w.heap.size (({ { { zF t with p := bs x1 } with L := x2 } with ve := x3 } : OpF).row nilS ⟨aA, x2.length, ac⟩ nilS nilS nilS nilS nilS nilS nilS).toArray rfl rfl 29 _ H3.out.res isz_29 rfl (row_one _ _ _ _ _ _ _ _ _ _) ?_
     have hfin := H3.out.fin (({ { { zF t with p := bs x1 } with L := x2 } with ve := x3 } : OpF).row nilS ⟨aA, x2.length, ac⟩ nilS nilS nilS nilS nilS nilS nilS).toArray
     have hbz := cells_setRow (cs := (({ { { zF t with p := bs x1 } with L := x2 } with ve := x3 } : OpF).row nilS ⟨aA, x2.length, ac⟩ nilS nilS nilS nilS nilS nilS nilS).toArray) H3.out.res
     generalize hww : World.setRow _ _ _ = wz at hfin hbz ⊢
     have HFN := Hi hfin
     have HBZ := Hi hbz
     clear hww hfin hbz))
 refine bodyPost_ret (results_cell_row rfl _ _ w.heap.size 29 _ _ _ rfl HBZ.out zU29 rfl isz_29) rfl ?_
 exact Rend.yes HG3.out ⟨nilS, ⟨aA, x2.length, ac⟩, nilS, nilS, nilS, nilS, nilS, nilS, rfl, HFN.out.2.2, H3.out.ok⟩ HFN.out.1 HFN.out.2.1

abbrev Oqg3R1 : Array Value := #[.int .i32 0, .string ⟨#[]⟩, .slice none 0 0, .slice none 0 0, .int .i32 0, .int .i32 0, .bool false, .int .i64 0, .int .i64 0, .int .i64 0, .int .i64 0, .slice none 0 0, .slice none 0 0, .slice none 0 0, .slice none 0 0, .slice none 0 0, .int .i32 0, .slice none 0 0, .slice none 0 0]

theorem get_g6 (t : Int) (htt : t ∈ ([121, 6, 9, 103, 104] : List Int)) (B : Nat → Prop) (R c p : Nat) (A : Option Addr) (l : List UInt8) (w : World) (cv : Value) (h : Rdr w B R A c l p) :
 Calls Tryd.prog 58 #[.pointer (some ⟨R, 0, none⟩), .int .i32 t, cv] w fun e w' => Rend B R c A l (vOpF w.heap.size) (gFld t l p) w e w' := by
 have hg : gFld t l p = ((gText 4096).bind fun x1 => Rg.ret ({ zF t with p := bs x1 } : OpF)) l p := by
  unfold gFld
  simp only [zH, zI, or_false] at htt
  rcases htt with rfl | rfl | rfl | rfl | rfl <;> rfl
 have HG0 := Hi hg
 obtain ⟨wa, hwa⟩ := xa w (Oqg3R1) 29
 have hza : wa.heap.size = w.heap.size + 1 := by rw [← hwa]; simp
 obtain ⟨w1, hw1⟩ := xa wa ((zF t).row nilS nilS nilS nilS nilS nilS nilS nilS nilS).toArray 29
 have hwf : (Lit.int .i32 t).wf = true := by
  simp only [zH, zI, or_false] at htt
  rcases htt with rfl | rfl | rfl | rfl | rfl <;> rfl
 have H0 := Hi (GSt.start h (t := t) hwf hwa hw1)
 obtain ⟨kn, hkn⟩ : ∃ k, k = kindN t := ⟨_, rfl⟩
 have hk0 : (kn == 0) = false := by
  rw [hkn]
  simp only [zH, zI, or_false] at htt
  rcases htt with rfl | rfl | rfl | rfl | rfl <;> decide
 have hk5 : (kn == 5) = false := by
  rw [hkn]
  simp only [zH, zI, or_false] at htt
  rcases htt with rfl | rfl | rfl | rfl | rfl <;> decide
 have HK : Hid (∀ W, Calls Tryd.prog 12 #[.int .i32 t] W fun e w' => e = .returned (.int .i64 kn) ∧ w' = W) := fun W => by rw [hkn]; exact kind_any t W
 clear hkn hwf
 obtain ⟨n0, n1, n2, n3, n4, n5, n6, n7, n8, n9, n10, n11, n12, n13, n14, n15, n16, n17, n18, n19, n20, n21, _⟩ := sw_all (cs := [(-10), 14, 22, 101, (-11), 11, 107, 1, 15, 19, 21, 2, 13, 5, 7, 120, 3, 4, 8, 12, 106, 18]) htt rfl
 clear htt
 clear h hg
 go_enter Tryd.func58, Tryd.ntmps58
 go_wp2_with (first
  | (with_reducible refine wpAq 7 ?_
     refine wpList_newrow rfl rfl 29 rfl 7 rfl (.tmp 11) rfl rfl ((zF t).row nilS nilS nilS nilS nilS nilS nilS nilS nilS).toArray (fun _ => rfl) (show 7 < 160 by decide) zer_op isz_29 (row_one _ _ _ _ _ _ _ _ _ _) ?_
     rw [hw1])
  | (go_at_call 12
     refine (HK.out _).mono ?_
     rintro e w2 ⟨rfl, he⟩
     obtain rfl := he.symm
     refine Hid.out ?_))
 have ht := rText_any B R c p A l 4096 _ H0.out.rdr
 rcases h1 : (gText 4096) l p with ⟨x1, q1⟩ | ⟨er, q1⟩
 rotate_left
 · rw [h1] at ht
   have HT := Hi ht
   have HGE := Hi (HG0.out.trans (gb_no h1))
   clear ht h1
   refine Hi ?_
   go_wp2_with (go_at_call 89; refine HT.out.mono ?_; rintro e w2 ⟨rfl, hkp, hR⟩; have HN := Hi (H0.out.read hkp hR); clear hkp hR)
   exact ⟨rfl, Rend.no HGE.out HN.out.kp HN.out.rdr⟩
 rw [h1] at ht
 have HT := Hi ht
 have hg := HG0.out.trans (gb_ev h1)
 have HG1 := Hi hg
 have HX : Hid ((bs x1).size ≤ reachBytes) := by have := gText_most h1; unfold Hid reachBytes; rw [bs_size]; omega
 clear ht h1 hg HG0
 refine Hi ?_
 go_wp2_with (go_at_call 89; refine HT.out.mono ?_; rintro e w2 ⟨⟨v, rfl, rfl⟩, hkp, hR⟩; have HN := Hi (H0.out.read hkp hR); clear hkp hR; refine Hid.out ?_)
 have kc : w2.cell? ⟨w.heap.size + 1, 1, none⟩ = some (.string ⟨#[]⟩) := yC HN.out.blk 1 rfl
 have kf := HN.out.blk.frozen 1
 have H1 := Hi (HN.out.set_p (x := ⟨x1.toArray⟩) HX.out)
 clear HT H0 HN HX
 refine Hi ?_
 go_wp2_with (first
  | (with_reducible refine wpAq 159 ?_
     refine wpList_load_row rfl 29 (.tmp 7) rfl (w.heap.size + 1) rfl 29 _ _ _ H1.out.blk zU29 rfl isz_29 ?_)
  | (with_reducible refine wpSt 6 ?_
     refine wpList_store_row rfl 29 (.tmp 6) (.tmp 159) rfl w.heap.size (({ zF t with p := bs x1 } : OpF).row nilS nilS nilS nilS nilS nilS nilS nilS nilS).toArray rfl rfl 29 _ H1.out.res isz_29 rfl (row_one _ _ _ _ _ _ _ _ _ _) ?_
     have hfin := H1.out.fin (({ zF t with p := bs x1 } : OpF).row nilS nilS nilS nilS nilS nilS nilS nilS nilS).toArray
     have hbz := cells_setRow (cs := (({ zF t with p := bs x1 } : OpF).row nilS nilS nilS nilS nilS nilS nilS nilS nilS).toArray) H1.out.res
     generalize hww : World.setRow _ _ _ = wz at hfin hbz ⊢
     have HFN := Hi hfin
     have HBZ := Hi hbz
     clear hww hfin hbz))
 refine bodyPost_ret (results_cell_row rfl _ _ w.heap.size 29 _ _ _ rfl HBZ.out zU29 rfl isz_29) rfl ?_
 exact Rend.yes HG1.out ⟨nilS, nilS, nilS, nilS, nilS, nilS, nilS, nilS, rfl, HFN.out.2.2, H1.out.ok⟩ HFN.out.1 HFN.out.2.1
theorem get_g9 (t : Int) (htt : t ∈ ([(-10)] : List Int)) (B : Nat → Prop) (R c p : Nat) (A : Option Addr) (l : List UInt8) (w : World) (cv : Value) (h : Rdr w B R A c l p) :
 Calls Tryd.prog 58 #[.pointer (some ⟨R, 0, none⟩), .int .i32 t, cv] w fun e w' => Rend B R c A l (vOpF w.heap.size) (gFld t l p) w e w' := by
 have hg : gFld t l p = ((gInt).bind fun x1 => (gGet 16 8 gIdO).bind fun x2 => Rg.ret ({ (⟨(zF t).t, (zF t).p, (zF t).l, (zF t).L, (zF t).fl, (zF t).ve, (zF t).wa, (zF t).ct, (zF t).by_, (zF t).tl, (zF t).zx, (zF t).K0, (zF t).K1, (zF t).K2, (zF t).K3, (zF t).K4, x1, (zF t).I⟩ : OpF) with I := x2 } : OpF)) l p := by
  unfold gFld
  simp only [zH, zI, or_false] at htt
  rcases htt with rfl <;> rfl
 have HG0 := Hi hg
 obtain ⟨wa, hwa⟩ := xa w (Oqg3R1) 29
 have hza : wa.heap.size = w.heap.size + 1 := by rw [← hwa]; simp
 obtain ⟨w1, hw1⟩ := xa wa ((zF t).row nilS nilS nilS nilS nilS nilS nilS nilS nilS).toArray 29
 have hwf : (Lit.int .i32 t).wf = true := by
  simp only [zH, zI, or_false] at htt
  rcases htt with rfl <;> rfl
 have H0 := Hi (GSt.start h (t := t) hwf hwa hw1)
 obtain ⟨kn, hkn⟩ : ∃ k, k = kindN t := ⟨_, rfl⟩
 have hk0 : (kn == 0) = false := by
  rw [hkn]
  simp only [zH, zI, or_false] at htt
  rcases htt with rfl <;> decide
 have hk5 : (kn == 5) = false := by
  rw [hkn]
  simp only [zH, zI, or_false] at htt
  rcases htt with rfl <;> decide
 have HK : Hid (∀ W, Calls Tryd.prog 12 #[.int .i32 t] W fun e w' => e = .returned (.int .i64 kn) ∧ w' = W) := fun W => by rw [hkn]; exact kind_any t W
 clear hkn hwf
 obtain ⟨n0, n1, n2, n3, n4, n5, n6, n7, n8, n9, n10, n11, n12, n13, n14, n15, n16, n17, n18, n19, n20, _⟩ := sw_all (cs := [14, 22, 101, (-11), 11, 107, 1, 15, 19, 21, 2, 13, 5, 7, 120, 3, 4, 8, 12, 106, 18]) htt rfl
 have S : ((t == (-10)) = true) := by
  simp only [zH, zI, or_false] at htt
  rcases htt with rfl <;> decide
 clear htt
 clear h hg
 go_enter Tryd.func58, Tryd.ntmps58
 go_wp2_with (first
  | (with_reducible refine wpAq 7 ?_
     refine wpList_newrow rfl rfl 29 rfl 7 rfl (.tmp 11) rfl rfl ((zF t).row nilS nilS nilS nilS nilS nilS nilS nilS nilS).toArray (fun _ => rfl) (show 7 < 160 by decide) zer_op isz_29 (row_one _ _ _ _ _ _ _ _ _ _) ?_
     rw [hw1])
  | (go_at_call 12
     refine (HK.out _).mono ?_
     rintro e w2 ⟨rfl, he⟩
     obtain rfl := he.symm
     refine Hid.out ?_))
 have ht := rInt_any B R c p A l _ H0.out.rdr
 rcases h1 : (gInt) l p with ⟨x1, q1⟩ | ⟨er, q1⟩
 rotate_left
 · rw [h1] at ht
   have HT := Hi ht
   have HGE := Hi (HG0.out.trans (gb_no h1))
   clear ht h1
   refine Hi ?_
   go_wp2_with (go_at_call 29; refine HT.out.mono ?_; rintro e w2 ⟨rfl, hkp, hR⟩; have HN := Hi (H0.out.read hkp hR); clear hkp hR)
   exact ⟨rfl, Rend.no HGE.out HN.out.kp HN.out.rdr⟩
 rw [h1] at ht
 have HT := Hi ht
 have hg := HG0.out.trans (gb_ev h1)
 have HG1 := Hi hg
 have HX := Hi (gInt_wf h1)
 clear ht h1 hg HG0
 refine Hi ?_
 go_wp2_with (go_at_call 29; refine HT.out.mono ?_; rintro e w2 ⟨⟨v, rfl, rfl⟩, hkp, hR⟩; have HN := Hi (H0.out.read hkp hR); clear hkp hR; refine Hid.out ?_)
 have kc : w2.cell? ⟨w.heap.size + 1, 16, none⟩ = some (.int .i32 0) := yC HN.out.blk 16 rfl
 have kf := HN.out.blk.frozen 16
 have H1 := Hi (HN.out.set_to HX.out)
 clear HT H0 HN HX
 have ht := aclGetIds_any B R c q1 A l _ H1.out.rdr
 rcases h1 : (gGet 16 8 gIdO) l q1 with ⟨x2, q2⟩ | ⟨er, q2⟩
 rotate_left
 · rw [h1] at ht
   have HT := Hi ht
   have HGE := Hi (HG1.out.trans (gb_no h1))
   clear ht h1
   refine Hi ?_
   go_wp2_with (go_at_call 84; refine HT.out.mono ?_; rintro e w2 ⟨rfl, hkp, hR⟩; have HN := Hi (H1.out.read hkp hR); clear hkp hR)
   exact ⟨rfl, Rend.no HGE.out HN.out.kp HN.out.rdr⟩
 rw [h1] at ht
 have HT := Hi ht
 have hg := HG1.out.trans (gb_ev h1)
 have HG2 := Hi hg
 have HX : Hid (x2.length * 32 ≤ reachBytes) := by have := (gGet_all (Q := fun _ => True) (fun _ _ _ _ _ => trivial) h1).1; unfold Hid reachBytes; omega
 have HY : Hid (∀ y ∈ x2, y.1.size ≤ reachBytes ∧ y.2.size ≤ reachBytes) := fun y hy => by
  obtain ⟨y2, y3⟩ := (gGet_all (Q := fun y : ByteArray × ByteArray => y.1.size ≤ 256 ∧ y.2.size ≤ 256) (fun _ _ _ _ h => gIdO_ok h) h1).2 y hy
  exact ⟨Nat.le_trans y2 (by decide), Nat.le_trans y3 (by decide)⟩
 clear ht h1 hg HG1
 refine Hi ?_
 go_wp2_with (go_at_call 84; refine HT.out.mono ?_; rintro e w3 ⟨⟨v, rfl, iA, ic, hve, ho⟩, hkp, hR⟩; subst hve; have HO := Hi (own_base ho H1.out.size); clear ho; have HN := Hi (H1.out.read hkp hR); clear hkp hR; refine Hid.out ?_)
 have kc : w3.cell? ⟨w.heap.size + 1, 17, none⟩ = some (.slice none 0 0) := yC HN.out.blk 17 rfl
 have kf := HN.out.blk.frozen 17
 have H2 := Hi (HN.out.set_i HO.out HX.out HY.out)
 clear HT H1 HN HX HO HY
 refine Hi ?_
 go_wp2_with (first
  | (with_reducible refine wpAq 31 ?_
     refine wpList_load_row rfl 29 (.tmp 7) rfl (w.heap.size + 1) rfl 29 _ _ _ H2.out.blk zU29 rfl isz_29 ?_)
  | (with_reducible refine wpSt 6 ?_
     refine wpList_store_row rfl 29 (.tmp 6) (.tmp 31) rfl w.heap.size (({ (⟨(zF t).t, (zF t).p, (zF t).l, (zF t).L, (zF t).fl, (zF t).ve, (zF t).wa, (zF t).ct, (zF t).by_, (zF t).tl, (zF t).zx, (zF t).K0, (zF t).K1, (zF t).K2, (zF t).K3, (zF t).K4, x1, (zF t).I⟩ : OpF) with I := x2 } : OpF).row nilS nilS nilS nilS nilS nilS nilS ⟨iA, x2.length, ic⟩ nilS).toArray rfl rfl 29 _ H2.out.res isz_29 rfl (row_one _ _ _ _ _ _ _ _ _ _) ?_
     have hfin := H2.out.fin (({ (⟨(zF t).t, (zF t).p, (zF t).l, (zF t).L, (zF t).fl, (zF t).ve, (zF t).wa, (zF t).ct, (zF t).by_, (zF t).tl, (zF t).zx, (zF t).K0, (zF t).K1, (zF t).K2, (zF t).K3, (zF t).K4, x1, (zF t).I⟩ : OpF) with I := x2 } : OpF).row nilS nilS nilS nilS nilS nilS nilS ⟨iA, x2.length, ic⟩ nilS).toArray
     have hbz := cells_setRow (cs := (({ (⟨(zF t).t, (zF t).p, (zF t).l, (zF t).L, (zF t).fl, (zF t).ve, (zF t).wa, (zF t).ct, (zF t).by_, (zF t).tl, (zF t).zx, (zF t).K0, (zF t).K1, (zF t).K2, (zF t).K3, (zF t).K4, x1, (zF t).I⟩ : OpF) with I := x2 } : OpF).row nilS nilS nilS nilS nilS nilS nilS ⟨iA, x2.length, ic⟩ nilS).toArray) H2.out.res
     generalize hww : World.setRow _ _ _ = wz at hfin hbz ⊢
     have HFN := Hi hfin
     have HBZ := Hi hbz
     clear hww hfin hbz))
 refine bodyPost_ret (results_cell_row rfl _ _ w.heap.size 29 _ _ _ rfl HBZ.out zU29 rfl isz_29) rfl ?_
 exact Rend.yes HG2.out ⟨nilS, nilS, nilS, nilS, nilS, nilS, nilS, ⟨iA, x2.length, ic⟩, rfl, HFN.out.2.2, H2.out.ok⟩ HFN.out.1 HFN.out.2.1
theorem get_g5 (t : Int) (htt : t ∈ ([120] : List Int)) (B : Nat → Prop) (R c p : Nat) (A : Option Addr) (l : List UInt8) (w : World) (cv : Value) (h : Rdr w B R A c l p) :
 Calls Tryd.prog 58 #[.pointer (some ⟨R, 0, none⟩), .int .i32 t, cv] w fun e w' => Rend B R c A l (vOpF w.heap.size) (gFld t l p) w e w' := by
 have hg : gFld t l p = ((gText 4096).bind fun x1 => (gLong).bind fun x2 => (gLong).bind fun x3 => Rg.ret ({ { { zF t with p := bs x1 } with ct := x2 } with by_ := x3 } : OpF)) l p := by
  unfold gFld
  simp only [zH, zI, or_false] at htt
  rcases htt with rfl <;> rfl
 have HG0 := Hi hg
 obtain ⟨wa, hwa⟩ := xa w (Oqg3R1) 29
 have hza : wa.heap.size = w.heap.size + 1 := by rw [← hwa]; simp
 obtain ⟨w1, hw1⟩ := xa wa ((zF t).row nilS nilS nilS nilS nilS nilS nilS nilS nilS).toArray 29
 have hwf : (Lit.int .i32 t).wf = true := by
  simp only [zH, zI, or_false] at htt
  rcases htt with rfl <;> rfl
 have H0 := Hi (GSt.start h (t := t) hwf hwa hw1)
 obtain ⟨kn, hkn⟩ : ∃ k, k = kindN t := ⟨_, rfl⟩
 have hk0 : (kn == 0) = false := by
  rw [hkn]
  simp only [zH, zI, or_false] at htt
  rcases htt with rfl <;> decide
 have hk5 : (kn == 5) = false := by
  rw [hkn]
  simp only [zH, zI, or_false] at htt
  rcases htt with rfl <;> decide
 have HK : Hid (∀ W, Calls Tryd.prog 12 #[.int .i32 t] W fun e w' => e = .returned (.int .i64 kn) ∧ w' = W) := fun W => by rw [hkn]; exact kind_any t W
 clear hkn hwf
 obtain ⟨n0, n1, n2, n3, n4, n5, n6, n7, n8, n9, n10, n11, n12, n13, n14, n15, n16, n17, n18, n19, n20, _⟩ := sw_all (cs := [(-10), 14, 22, 101, (-11), 11, 107, 1, 15, 19, 21, 2, 13, 5, 7, 3, 4, 8, 12, 106, 18]) htt rfl
 have S : ((t == 120) = true) := by
  simp only [zH, zI, or_false] at htt
  rcases htt with rfl <;> decide
 clear htt
 clear h hg
 go_enter Tryd.func58, Tryd.ntmps58
 go_wp2_with (first
  | (with_reducible refine wpAq 7 ?_
     refine wpList_newrow rfl rfl 29 rfl 7 rfl (.tmp 11) rfl rfl ((zF t).row nilS nilS nilS nilS nilS nilS nilS nilS nilS).toArray (fun _ => rfl) (show 7 < 160 by decide) zer_op isz_29 (row_one _ _ _ _ _ _ _ _ _ _) ?_
     rw [hw1])
  | (go_at_call 12
     refine (HK.out _).mono ?_
     rintro e w2 ⟨rfl, he⟩
     obtain rfl := he.symm
     refine Hid.out ?_))
 have ht := rText_any B R c p A l 4096 _ H0.out.rdr
 rcases h1 : (gText 4096) l p with ⟨x1, q1⟩ | ⟨er, q1⟩
 rotate_left
 · rw [h1] at ht
   have HT := Hi ht
   have HGE := Hi (HG0.out.trans (gb_no h1))
   clear ht h1
   refine Hi ?_
   go_wp2_with (go_at_call 89; refine HT.out.mono ?_; rintro e w2 ⟨rfl, hkp, hR⟩; have HN := Hi (H0.out.read hkp hR); clear hkp hR)
   exact ⟨rfl, Rend.no HGE.out HN.out.kp HN.out.rdr⟩
 rw [h1] at ht
 have HT := Hi ht
 have hg := HG0.out.trans (gb_ev h1)
 have HG1 := Hi hg
 have HX : Hid ((bs x1).size ≤ reachBytes) := by have := gText_most h1; unfold Hid reachBytes; rw [bs_size]; omega
 clear ht h1 hg HG0
 refine Hi ?_
 go_wp2_with (go_at_call 89; refine HT.out.mono ?_; rintro e w2 ⟨⟨v, rfl, rfl⟩, hkp, hR⟩; have HN := Hi (H0.out.read hkp hR); clear hkp hR; refine Hid.out ?_)
 have kc : w2.cell? ⟨w.heap.size + 1, 1, none⟩ = some (.string ⟨#[]⟩) := yC HN.out.blk 1 rfl
 have kf := HN.out.blk.frozen 1
 have H1 := Hi (HN.out.set_p (x := ⟨x1.toArray⟩) HX.out)
 clear HT H0 HN HX
 have ht := rLong_any B R c q1 A l _ H1.out.rdr
 rcases h1 : (gLong) l q1 with ⟨x2, q2⟩ | ⟨er, q2⟩
 rotate_left
 · rw [h1] at ht
   have HT := Hi ht
   have HGE := Hi (HG1.out.trans (gb_no h1))
   clear ht h1
   refine Hi ?_
   go_wp2_with (go_at_call 86; refine HT.out.mono ?_; rintro e w2 ⟨rfl, hkp, hR⟩; have HN := Hi (H1.out.read hkp hR); clear hkp hR)
   exact ⟨rfl, Rend.no HGE.out HN.out.kp HN.out.rdr⟩
 rw [h1] at ht
 have HT := Hi ht
 have hg := HG1.out.trans (gb_ev h1)
 have HG2 := Hi hg
 have HX := Hi (gLong_wf h1)
 clear ht h1 hg HG1
 refine Hi ?_
 go_wp2_with (go_at_call 86; refine HT.out.mono ?_; rintro e w3 ⟨⟨v, rfl, rfl⟩, hkp, hR⟩; have HN := Hi (H1.out.read hkp hR); clear hkp hR; refine Hid.out ?_)
 have kc : w3.cell? ⟨w.heap.size + 1, 7, none⟩ = some (.int .i64 0) := yC HN.out.blk 7 rfl
 have kf := HN.out.blk.frozen 7
 have H2 := Hi (HN.out.set_ct HX.out)
 clear HT H1 HN HX
 have ht := rLong_any B R c q2 A l _ H2.out.rdr
 rcases h1 : (gLong) l q2 with ⟨x3, q3⟩ | ⟨er, q3⟩
 rotate_left
 · rw [h1] at ht
   have HT := Hi ht
   have HGE := Hi (HG2.out.trans (gb_no h1))
   clear ht h1
   refine Hi ?_
   go_wp2_with (go_at_call 86; refine HT.out.mono ?_; rintro e w2 ⟨rfl, hkp, hR⟩; have HN := Hi (H2.out.read hkp hR); clear hkp hR)
   exact ⟨rfl, Rend.no HGE.out HN.out.kp HN.out.rdr⟩
 rw [h1] at ht
 have HT := Hi ht
 have hg := HG2.out.trans (gb_ev h1)
 have HG3 := Hi hg
 have HX := Hi (gLong_wf h1)
 clear ht h1 hg HG2
 refine Hi ?_
 go_wp2_with (go_at_call 86; refine HT.out.mono ?_; rintro e w4 ⟨⟨v, rfl, rfl⟩, hkp, hR⟩; have HN := Hi (H2.out.read hkp hR); clear hkp hR; refine Hid.out ?_)
 have kc : w4.cell? ⟨w.heap.size + 1, 8, none⟩ = some (.int .i64 0) := yC HN.out.blk 8 rfl
 have kf := HN.out.blk.frozen 8
 have H3 := Hi (HN.out.set_by HX.out)
 clear HT H2 HN HX
 refine Hi ?_
 go_wp2_with (first
  | (with_reducible refine wpAq 159 ?_
     refine wpList_load_row rfl 29 (.tmp 7) rfl (w.heap.size + 1) rfl 29 _ _ _ H3.out.blk zU29 rfl isz_29 ?_)
  | (with_reducible refine wpSt 6 ?_
     refine wpList_store_row rfl 29 (.tmp 6) (.tmp 159) rfl w.heap.size (({ { { zF t with p := bs x1 } with ct := x2 } with by_ := x3 } : OpF).row nilS nilS nilS nilS nilS nilS nilS nilS nilS).toArray rfl rfl 29 _ H3.out.res isz_29 rfl (row_one _ _ _ _ _ _ _ _ _ _) ?_
     have hfin := H3.out.fin (({ { { zF t with p := bs x1 } with ct := x2 } with by_ := x3 } : OpF).row nilS nilS nilS nilS nilS nilS nilS nilS nilS).toArray
     have hbz := cells_setRow (cs := (({ { { zF t with p := bs x1 } with ct := x2 } with by_ := x3 } : OpF).row nilS nilS nilS nilS nilS nilS nilS nilS nilS).toArray) H3.out.res
     generalize hww : World.setRow _ _ _ = wz at hfin hbz ⊢
     have HFN := Hi hfin
     have HBZ := Hi hbz
     clear hww hfin hbz))
 refine bodyPost_ret (results_cell_row rfl _ _ w.heap.size 29 _ _ _ rfl HBZ.out zU29 rfl isz_29) rfl ?_
 exact Rend.yes HG3.out ⟨nilS, nilS, nilS, nilS, nilS, nilS, nilS, nilS, rfl, HFN.out.2.2, H3.out.ok⟩ HFN.out.1 HFN.out.2.1

abbrev Oqg4R1 : Array Value := #[.int .i32 0, .string ⟨#[]⟩, .slice none 0 0, .slice none 0 0, .int .i32 0, .int .i32 0, .bool false, .int .i64 0, .int .i64 0, .int .i64 0, .int .i64 0, .slice none 0 0, .slice none 0 0, .slice none 0 0, .slice none 0 0, .slice none 0 0, .int .i32 0, .slice none 0 0, .slice none 0 0]

theorem get_g7 (t : Int) (htt : t ∈ ([3, 4, 8, 12] : List Int)) (B : Nat → Prop) (R c p : Nat) (A : Option Addr) (l : List UInt8) (w : World) (cv : Value) (h : Rdr w B R A c l p) :
 Calls Tryd.prog 58 #[.pointer (some ⟨R, 0, none⟩), .int .i32 t, cv] w fun e w' => Rend B R c A l (vOpF w.heap.size) (gFld t l p) w e w' := by
 have hg : gFld t l p = ((gText 4096).bind fun x1 => (gBool).bind fun x2 => Rg.ret ({ { zF t with p := bs x1 } with wa := x2 } : OpF)) l p := by
  unfold gFld
  simp only [zH, zI, or_false] at htt
  rcases htt with rfl | rfl | rfl | rfl <;> rfl
 have HG0 := Hi hg
 obtain ⟨wa, hwa⟩ := xa w (Oqg4R1) 29
 have hza : wa.heap.size = w.heap.size + 1 := by rw [← hwa]; simp
 obtain ⟨w1, hw1⟩ := xa wa ((zF t).row nilS nilS nilS nilS nilS nilS nilS nilS nilS).toArray 29
 have hwf : (Lit.int .i32 t).wf = true := by
  simp only [zH, zI, or_false] at htt
  rcases htt with rfl | rfl | rfl | rfl <;> rfl
 have H0 := Hi (GSt.start h (t := t) hwf hwa hw1)
 obtain ⟨kn, hkn⟩ : ∃ k, k = kindN t := ⟨_, rfl⟩
 have hk0 : (kn == 0) = false := by
  rw [hkn]
  simp only [zH, zI, or_false] at htt
  rcases htt with rfl | rfl | rfl | rfl <;> decide
 have hk5 : (kn == 5) = false := by
  rw [hkn]
  simp only [zH, zI, or_false] at htt
  rcases htt with rfl | rfl | rfl | rfl <;> decide
 have HK : Hid (∀ W, Calls Tryd.prog 12 #[.int .i32 t] W fun e w' => e = .returned (.int .i64 kn) ∧ w' = W) := fun W => by rw [hkn]; exact kind_any t W
 clear hkn hwf
 obtain ⟨n0, n1, n2, n3, n4, n5, n6, n7, n8, n9, n10, n11, n12, n13, n14, n15, n16, n17, _⟩ := sw_all (cs := [(-10), 14, 22, 101, (-11), 11, 107, 1, 15, 19, 21, 2, 13, 5, 7, 120, 106, 18]) htt rfl
 have S : ((t == 3) = true) ∨ ((t == 3) = false ∧ (t == 4) = true) ∨ ((t == 3) = false ∧ (t == 4) = false ∧ (t == 8) = true) ∨ ((t == 3) = false ∧ (t == 4) = false ∧ (t == 8) = false ∧ (t == 12) = true) := by
  simp only [zH, zI, or_false] at htt
  rcases htt with rfl | rfl | rfl | rfl <;> decide
 clear htt
 rcases S with s0 | ⟨s0, s1⟩ | ⟨s0, s1, s2⟩ | ⟨s0, s1, s2, s3⟩
 all_goals
  clear h hg
  go_enter Tryd.func58, Tryd.ntmps58
  go_wp2_with (first
   | (with_reducible refine wpAq 7 ?_
      refine wpList_newrow rfl rfl 29 rfl 7 rfl (.tmp 11) rfl rfl ((zF t).row nilS nilS nilS nilS nilS nilS nilS nilS nilS).toArray (fun _ => rfl) (show 7 < 160 by decide) zer_op isz_29 (row_one _ _ _ _ _ _ _ _ _ _) ?_
      rw [hw1])
   | (go_at_call 12
      refine (HK.out _).mono ?_
      rintro e w2 ⟨rfl, he⟩
      obtain rfl := he.symm
      refine Hid.out ?_))
  have ht := rText_any B R c p A l 4096 _ H0.out.rdr
  rcases h1 : (gText 4096) l p with ⟨x1, q1⟩ | ⟨er, q1⟩
  rotate_left
  · rw [h1] at ht
    have HT := Hi ht
    have HGE := Hi (HG0.out.trans (gb_no h1))
    clear ht h1
    refine Hi ?_
    go_wp2_with (go_at_call 89; refine HT.out.mono ?_; rintro e w2 ⟨rfl, hkp, hR⟩; have HN := Hi (H0.out.read hkp hR); clear hkp hR)
    exact ⟨rfl, Rend.no HGE.out HN.out.kp HN.out.rdr⟩
  rw [h1] at ht
  have HT := Hi ht
  have hg := HG0.out.trans (gb_ev h1)
  have HG1 := Hi hg
  have HX : Hid ((bs x1).size ≤ reachBytes) := by have := gText_most h1; unfold Hid reachBytes; rw [bs_size]; omega
  clear ht h1 hg HG0
  refine Hi ?_
  go_wp2_with (go_at_call 89; refine HT.out.mono ?_; rintro e w2 ⟨⟨v, rfl, rfl⟩, hkp, hR⟩; have HN := Hi (H0.out.read hkp hR); clear hkp hR; refine Hid.out ?_)
  have kc : w2.cell? ⟨w.heap.size + 1, 1, none⟩ = some (.string ⟨#[]⟩) := yC HN.out.blk 1 rfl
  have kf := HN.out.blk.frozen 1
  have H1 := Hi (HN.out.set_p (x := ⟨x1.toArray⟩) HX.out)
  clear HT H0 HN HX
  have ht := rBool_any B R c q1 A l _ H1.out.rdr
  rcases h1 : (gBool) l q1 with ⟨x2, q2⟩ | ⟨er, q2⟩
  rotate_left
  · rw [h1] at ht
    have HT := Hi ht
    have HGE := Hi (HG1.out.trans (gb_no h1))
    clear ht h1
    refine Hi ?_
    go_wp2_with (go_at_call 92; refine HT.out.mono ?_; rintro e w2 ⟨rfl, hkp, hR⟩; have HN := Hi (H1.out.read hkp hR); clear hkp hR)
    exact ⟨rfl, Rend.no HGE.out HN.out.kp HN.out.rdr⟩
  rw [h1] at ht
  have HT := Hi ht
  have hg := HG1.out.trans (gb_ev h1)
  have HG2 := Hi hg
  clear ht h1 hg HG1
  refine Hi ?_
  go_wp2_with (go_at_call 92; refine HT.out.mono ?_; rintro e w3 ⟨⟨v, rfl, rfl⟩, hkp, hR⟩; have HN := Hi (H1.out.read hkp hR); clear hkp hR; refine Hid.out ?_)
  have kc : w3.cell? ⟨w.heap.size + 1, 6, none⟩ = some (.bool false) := yC HN.out.blk 6 rfl
  have kf := HN.out.blk.frozen 6
  have H2 := Hi (HN.out.set_wa x2)
  clear HT H1 HN
  refine Hi ?_
  go_wp2_with (first
   | (with_reducible refine wpAq 159 ?_
      refine wpList_load_row rfl 29 (.tmp 7) rfl (w.heap.size + 1) rfl 29 _ _ _ H2.out.blk zU29 rfl isz_29 ?_)
   | (with_reducible refine wpSt 6 ?_
      refine wpList_store_row rfl 29 (.tmp 6) (.tmp 159) rfl w.heap.size (({ { zF t with p := bs x1 } with wa := x2 } : OpF).row nilS nilS nilS nilS nilS nilS nilS nilS nilS).toArray rfl rfl 29 _ H2.out.res isz_29 rfl (row_one _ _ _ _ _ _ _ _ _ _) ?_
      have hfin := H2.out.fin (({ { zF t with p := bs x1 } with wa := x2 } : OpF).row nilS nilS nilS nilS nilS nilS nilS nilS nilS).toArray
      have hbz := cells_setRow (cs := (({ { zF t with p := bs x1 } with wa := x2 } : OpF).row nilS nilS nilS nilS nilS nilS nilS nilS nilS).toArray) H2.out.res
      generalize hww : World.setRow _ _ _ = wz at hfin hbz ⊢
      have HFN := Hi hfin
      have HBZ := Hi hbz
      clear hww hfin hbz))
  refine bodyPost_ret (results_cell_row rfl _ _ w.heap.size 29 _ _ _ rfl HBZ.out zU29 rfl isz_29) rfl ?_
  exact Rend.yes HG2.out ⟨nilS, nilS, nilS, nilS, nilS, nilS, nilS, nilS, rfl, HFN.out.2.2, H2.out.ok⟩ HFN.out.1 HFN.out.2.1
theorem get_g8 (t : Int) (htt : t ∈ ([106, 18] : List Int)) (B : Nat → Prop) (R c p : Nat) (A : Option Addr) (l : List UInt8) (w : World) (cv : Value) (h : Rdr w B R A c l p) :
 Calls Tryd.prog 58 #[.pointer (some ⟨R, 0, none⟩), .int .i32 t, cv] w fun e w' => Rend B R c A l (vOpF w.heap.size) (gFld t l p) w e w' := by
 have hg : gFld t l p = ((gText 4096).bind fun x1 => (gInt).bind fun x2 => Rg.ret ({ { zF t with p := bs x1 } with fl := x2 } : OpF)) l p := by
  unfold gFld
  simp only [zH, zI, or_false] at htt
  rcases htt with rfl | rfl <;> rfl
 have HG0 := Hi hg
 obtain ⟨wa, hwa⟩ := xa w (Oqg4R1) 29
 have hza : wa.heap.size = w.heap.size + 1 := by rw [← hwa]; simp
 obtain ⟨w1, hw1⟩ := xa wa ((zF t).row nilS nilS nilS nilS nilS nilS nilS nilS nilS).toArray 29
 have hwf : (Lit.int .i32 t).wf = true := by
  simp only [zH, zI, or_false] at htt
  rcases htt with rfl | rfl <;> rfl
 have H0 := Hi (GSt.start h (t := t) hwf hwa hw1)
 obtain ⟨kn, hkn⟩ : ∃ k, k = kindN t := ⟨_, rfl⟩
 have hk0 : (kn == 0) = false := by
  rw [hkn]
  simp only [zH, zI, or_false] at htt
  rcases htt with rfl | rfl <;> decide
 have hk5 : (kn == 5) = false := by
  rw [hkn]
  simp only [zH, zI, or_false] at htt
  rcases htt with rfl | rfl <;> decide
 have HK : Hid (∀ W, Calls Tryd.prog 12 #[.int .i32 t] W fun e w' => e = .returned (.int .i64 kn) ∧ w' = W) := fun W => by rw [hkn]; exact kind_any t W
 clear hkn hwf
 obtain ⟨n0, n1, n2, n3, n4, n5, n6, n7, n8, n9, n10, n11, n12, n13, n14, n15, n16, n17, n18, n19, _⟩ := sw_all (cs := [(-10), 14, 22, 101, (-11), 11, 107, 1, 15, 19, 21, 2, 13, 5, 7, 120, 3, 4, 8, 12]) htt rfl
 have S : ((t == 106) = true) ∨ ((t == 106) = false ∧ (t == 18) = true) := by
  simp only [zH, zI, or_false] at htt
  rcases htt with rfl | rfl <;> decide
 clear htt
 rcases S with s0 | ⟨s0, s1⟩
 all_goals
  clear h hg
  go_enter Tryd.func58, Tryd.ntmps58
  go_wp2_with (first
   | (with_reducible refine wpAq 7 ?_
      refine wpList_newrow rfl rfl 29 rfl 7 rfl (.tmp 11) rfl rfl ((zF t).row nilS nilS nilS nilS nilS nilS nilS nilS nilS).toArray (fun _ => rfl) (show 7 < 160 by decide) zer_op isz_29 (row_one _ _ _ _ _ _ _ _ _ _) ?_
      rw [hw1])
   | (go_at_call 12
      refine (HK.out _).mono ?_
      rintro e w2 ⟨rfl, he⟩
      obtain rfl := he.symm
      refine Hid.out ?_))
  have ht := rText_any B R c p A l 4096 _ H0.out.rdr
  rcases h1 : (gText 4096) l p with ⟨x1, q1⟩ | ⟨er, q1⟩
  rotate_left
  · rw [h1] at ht
    have HT := Hi ht
    have HGE := Hi (HG0.out.trans (gb_no h1))
    clear ht h1
    refine Hi ?_
    go_wp2_with (go_at_call 89; refine HT.out.mono ?_; rintro e w2 ⟨rfl, hkp, hR⟩; have HN := Hi (H0.out.read hkp hR); clear hkp hR)
    exact ⟨rfl, Rend.no HGE.out HN.out.kp HN.out.rdr⟩
  rw [h1] at ht
  have HT := Hi ht
  have hg := HG0.out.trans (gb_ev h1)
  have HG1 := Hi hg
  have HX : Hid ((bs x1).size ≤ reachBytes) := by have := gText_most h1; unfold Hid reachBytes; rw [bs_size]; omega
  clear ht h1 hg HG0
  refine Hi ?_
  go_wp2_with (go_at_call 89; refine HT.out.mono ?_; rintro e w2 ⟨⟨v, rfl, rfl⟩, hkp, hR⟩; have HN := Hi (H0.out.read hkp hR); clear hkp hR; refine Hid.out ?_)
  have kc : w2.cell? ⟨w.heap.size + 1, 1, none⟩ = some (.string ⟨#[]⟩) := yC HN.out.blk 1 rfl
  have kf := HN.out.blk.frozen 1
  have H1 := Hi (HN.out.set_p (x := ⟨x1.toArray⟩) HX.out)
  clear HT H0 HN HX
  have ht := rInt_any B R c q1 A l _ H1.out.rdr
  rcases h1 : (gInt) l q1 with ⟨x2, q2⟩ | ⟨er, q2⟩
  rotate_left
  · rw [h1] at ht
    have HT := Hi ht
    have HGE := Hi (HG1.out.trans (gb_no h1))
    clear ht h1
    refine Hi ?_
    go_wp2_with (go_at_call 29; refine HT.out.mono ?_; rintro e w2 ⟨rfl, hkp, hR⟩; have HN := Hi (H1.out.read hkp hR); clear hkp hR)
    exact ⟨rfl, Rend.no HGE.out HN.out.kp HN.out.rdr⟩
  rw [h1] at ht
  have HT := Hi ht
  have hg := HG1.out.trans (gb_ev h1)
  have HG2 := Hi hg
  have HX := Hi (gInt_wf h1)
  clear ht h1 hg HG1
  refine Hi ?_
  go_wp2_with (go_at_call 29; refine HT.out.mono ?_; rintro e w3 ⟨⟨v, rfl, rfl⟩, hkp, hR⟩; have HN := Hi (H1.out.read hkp hR); clear hkp hR; refine Hid.out ?_)
  have kc : w3.cell? ⟨w.heap.size + 1, 4, none⟩ = some (.int .i32 0) := yC HN.out.blk 4 rfl
  have kf := HN.out.blk.frozen 4
  have H2 := Hi (HN.out.set_fl HX.out)
  clear HT H1 HN HX
  refine Hi ?_
  go_wp2_with (first
   | (with_reducible refine wpAq 159 ?_
      refine wpList_load_row rfl 29 (.tmp 7) rfl (w.heap.size + 1) rfl 29 _ _ _ H2.out.blk zU29 rfl isz_29 ?_)
   | (with_reducible refine wpSt 6 ?_
      refine wpList_store_row rfl 29 (.tmp 6) (.tmp 159) rfl w.heap.size (({ { zF t with p := bs x1 } with fl := x2 } : OpF).row nilS nilS nilS nilS nilS nilS nilS nilS nilS).toArray rfl rfl 29 _ H2.out.res isz_29 rfl (row_one _ _ _ _ _ _ _ _ _ _) ?_
      have hfin := H2.out.fin (({ { zF t with p := bs x1 } with fl := x2 } : OpF).row nilS nilS nilS nilS nilS nilS nilS nilS nilS).toArray
      have hbz := cells_setRow (cs := (({ { zF t with p := bs x1 } with fl := x2 } : OpF).row nilS nilS nilS nilS nilS nilS nilS nilS nilS).toArray) H2.out.res
      generalize hww : World.setRow _ _ _ = wz at hfin hbz ⊢
      have HFN := Hi hfin
      have HBZ := Hi hbz
      clear hww hfin hbz))
  refine bodyPost_ret (results_cell_row rfl _ _ w.heap.size 29 _ _ _ rfl HBZ.out zU29 rfl isz_29) rfl ?_
  exact Rend.yes HG2.out ⟨nilS, nilS, nilS, nilS, nilS, nilS, nilS, nilS, rfl, HFN.out.2.2, H2.out.ok⟩ HFN.out.1 HFN.out.2.1
theorem get_g10 (t : Int) (htt : t ∈ ([(-11), 11, 107] : List Int)) (B : Nat → Prop) (R c p : Nat) (A : Option Addr) (l : List UInt8) (w : World) (cv : Value) (h : Rdr w B R A c l p) :
 Calls Tryd.prog 58 #[.pointer (some ⟨R, 0, none⟩), .int .i32 t, cv] w fun e w' => Rend B R c A l (vOpF w.heap.size) (gFld t l p) w e w' := by
 have hg : gFld t l p = (Rg.ret (zF t : OpF)) l p := by
  unfold gFld
  simp only [zH, zI, or_false] at htt
  rcases htt with rfl | rfl | rfl <;> rfl
 have HG0 := Hi hg
 obtain ⟨wa, hwa⟩ := xa w (Oqg4R1) 29
 have hza : wa.heap.size = w.heap.size + 1 := by rw [← hwa]; simp
 obtain ⟨w1, hw1⟩ := xa wa ((zF t).row nilS nilS nilS nilS nilS nilS nilS nilS nilS).toArray 29
 have hwf : (Lit.int .i32 t).wf = true := by
  simp only [zH, zI, or_false] at htt
  rcases htt with rfl | rfl | rfl <;> rfl
 have H0 := Hi (GSt.start h (t := t) hwf hwa hw1)
 obtain ⟨kn, hkn⟩ : ∃ k, k = kindN t := ⟨_, rfl⟩
 have hk0 : (kn == 0) = false := by
  rw [hkn]
  simp only [zH, zI, or_false] at htt
  rcases htt with rfl | rfl | rfl <;> decide
 have hk5 : (kn == 5) = false := by
  rw [hkn]
  simp only [zH, zI, or_false] at htt
  rcases htt with rfl | rfl | rfl <;> decide
 have HK : Hid (∀ W, Calls Tryd.prog 12 #[.int .i32 t] W fun e w' => e = .returned (.int .i64 kn) ∧ w' = W) := fun W => by rw [hkn]; exact kind_any t W
 clear hkn hwf
 obtain ⟨n0, n1, n2, n3, n4, n5, n6, n7, n8, n9, n10, n11, n12, n13, n14, n15, n16, n17, n18, _⟩ := sw_all (cs := [(-10), 14, 22, 101, 1, 15, 19, 21, 2, 13, 5, 7, 120, 3, 4, 8, 12, 106, 18]) htt rfl
 have S : ((t == (-11)) = true) ∨ ((t == (-11)) = false ∧ (t == 11) = true) ∨ ((t == (-11)) = false ∧ (t == 11) = false ∧ (t == 107) = true) := by
  simp only [zH, zI, or_false] at htt
  rcases htt with rfl | rfl | rfl <;> decide
 clear htt
 rcases S with s0 | ⟨s0, s1⟩ | ⟨s0, s1, s2⟩
 all_goals
  clear h hg
  go_enter Tryd.func58, Tryd.ntmps58
  go_wp2_with (first
   | (with_reducible refine wpAq 7 ?_
      refine wpList_newrow rfl rfl 29 rfl 7 rfl (.tmp 11) rfl rfl ((zF t).row nilS nilS nilS nilS nilS nilS nilS nilS nilS).toArray (fun _ => rfl) (show 7 < 160 by decide) zer_op isz_29 (row_one _ _ _ _ _ _ _ _ _ _) ?_
      rw [hw1])
   | (go_at_call 12
      refine (HK.out _).mono ?_
      rintro e w2 ⟨rfl, he⟩
      obtain rfl := he.symm
      refine Hid.out ?_))
  refine Hi ?_
  go_wp2_with (first
   | (with_reducible refine wpAq 83 ?_
      refine wpList_load_row rfl 29 (.tmp 7) rfl (w.heap.size + 1) rfl 29 _ _ _ H0.out.blk zU29 rfl isz_29 ?_)
   | (with_reducible refine wpSt 6 ?_
      refine wpList_store_row rfl 29 (.tmp 6) (.tmp 83) rfl w.heap.size ((zF t : OpF).row nilS nilS nilS nilS nilS nilS nilS nilS nilS).toArray rfl rfl 29 _ H0.out.res isz_29 rfl (row_one _ _ _ _ _ _ _ _ _ _) ?_
      have hfin := H0.out.fin ((zF t : OpF).row nilS nilS nilS nilS nilS nilS nilS nilS nilS).toArray
      have hbz := cells_setRow (cs := ((zF t : OpF).row nilS nilS nilS nilS nilS nilS nilS nilS nilS).toArray) H0.out.res
      generalize hww : World.setRow _ _ _ = wz at hfin hbz ⊢
      have HFN := Hi hfin
      have HBZ := Hi hbz
      clear hww hfin hbz))
  refine bodyPost_ret (results_cell_row rfl _ _ w.heap.size 29 _ _ _ rfl HBZ.out zU29 rfl isz_29) rfl ?_
  exact Rend.yes HG0.out ⟨nilS, nilS, nilS, nilS, nilS, nilS, nilS, nilS, rfl, HFN.out.2.2, H0.out.ok⟩ HFN.out.1 HFN.out.2.1
end Go.Proofs.YtpjjnmdfgcfnmaaDoor
