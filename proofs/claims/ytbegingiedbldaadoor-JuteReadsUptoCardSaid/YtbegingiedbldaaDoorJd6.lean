/- The document's reading of a step: the walk. -/
import Derived.Test.YtbegingiedbldaaDoorJd5
import Derived.Test.YtbegingiedbldaaDoorJb5
namespace Go.Proofs.YtbegingiedbldaaDoor
open Go.RowKit

/-- behind a step: the reader stands behind it, and what it read is there; or it has failed -/
def OneE (base gbase R gb : Nat) (A : Option Addr) (c : Nat) (l : List UInt8) (vN vT : Value) (N : List Int) (T : List ByteArray) (r : (Gt × Nat) ⊕ (Int × Nat)) (w : World) (e : Ending) (w' : World) : Prop :=
  e = .returned (.tuple #[]) ∧ Kp (R :: gb :: (vN.ownBlock.toList ++ vT.ownBlock.toList)) w w' ∧
    match r with
    | .inl (g, q) => (∃ vN' vT', GotSt w' gbase gb vN' vT' (N ++ g.1) (T ++ g.2.map bs)) ∧ RR w' base R A c l q 0
    | .inr (er, q) => er ≠ 0 ∧ GotSt w' gbase gb vN vT N T ∧ RR w' base R A c l q er

section
variable {base gbase R gb : Nat} {A : Option Addr} {c : Nat} {l : List UInt8} {vN vT v3 : Value} {N : List Int} {T : List ByteArray} {r : (Gt × Nat) ⊕ (Int × Nat)} {w w2 w3 w4 : World} {q : Nat} {o : Obj} {er : Int}
theorem GotSt.kpR (h : GotSt w2 gbase gb vN vT N T) (hr : RR w2 base R A c l q er) {w' : World} (hk : Kp [R] w2 w') : GotSt w' gbase gb vN vT N T :=
  ⟨h.blk.kp hk (by have := h.blk.ne_ hr.blk (by decide); simpa using this), own_kp h.nums hk (fun x hx e => own_blk_ne h.nums hr.blk (by decide) (by rw [e, List.mem_singleton.1 hx])), own_kp h.txts hk (fun x hx e => own_blk_ne h.txts hr.blk (by decide) (by rw [e, List.mem_singleton.1 hx]))⟩
theorem OneE.skip (hk : Kp [R] w w2) (hg : GotSt w2 gbase gb vN vT N T) (hr2 : RR w2 base R A c l q 0) (hr : r = .inl (([], []), q)) : OneE base gbase R gb A c l vN vT N T r w (.returned (.tuple #[])) w2 := by
  subst hr
  exact ⟨rfl, hk.mono (fun x hx _ => by rw [List.mem_singleton.1 hx]; simp), ⟨vN, vT, by simpa using hg⟩, hr2⟩
theorem OneE.no (hk : Kp [R] w w2) (hg : GotSt w2 gbase gb vN vT N T) (hr2 : RR w2 base R A c l q er) (he : er ≠ 0) (hr : r = .inr (er, q)) : OneE base gbase R gb A c l vN vT N T r w (.returned (.tuple #[])) w2 := by
  subst hr
  exact ⟨rfl, hk.mono (fun x hx _ => by rw [List.mem_singleton.1 hx]; simp), he, hg, hr2⟩
theorem RR.row {e : TypeId} {n size : Nat} {v : Value} {xs : List Value} (hr2 : RR w2 base R A c l q er) (h : w2.ownsRow gbase e size v n xs) (he : e ≠ 38) (hbg : base ≤ gbase) (hg : w2.grownBy w3 v.ownBlock) : RR w3 base R A c l q er :=
  hr2.kp (Kp.of_grown hg) (fun hx => own_blk_ne h hr2.blk he (by simpa using hx)) (fun x hx => by have := (h.lt x (by simpa using hx)).1; omega)
theorem OneE.num {x : Int} (hk : Kp [R] w w2) (hg : GotSt w2 gbase gb vN vT N T) (hr2 : RR w2 base R A c l q 0) (hr : r = .inl (([x], []), q)) (hbg : base ≤ gbase) (hgb : base ≤ gb)
    (ho3 : w3.ownsRow gbase 2 1 v3 (N.length + 1) (icells N ++ icells [x])) (hg3 : (w2.alloc o).grownBy w3 vN.ownBlock) : OneE base gbase R gb A c l vN vT N T r w (.returned (.tuple #[])) (w3.setCell ⟨gb, 0, none⟩ v3) := by
  subst hr
  have hba : Below w2.heap.size w2 (w2.alloc o) := (Below.refl _ _).alloc (Nat.le_refl _) _
  have hga := hg.later hba
  have hra := hr2.later hba
  have hne : R ≠ gb := fun e => hg.blk.ne_ (by rw [← e]; exact hr2.blk) (by decide) rfl
  refine ⟨rfl, ?_, ⟨v3, vT, by simpa using hga.num hg3 ho3⟩, ?_⟩
  · exact ((hk.to (Kp.of_below (X := []) hba) (Z := [R]) (fun _ h _ => h) (fun _ h => by cases h)).to (Kp.of_grown hg3) (Z := R :: gb :: (vN.ownBlock.toList ++ vT.ownBlock.toList)) (fun x hx _ => by rw [List.mem_singleton.1 hx]; simp) (fun x hx _ => by simp at hx; simp [hx])).to (Kp.setCell ⟨gb, 0, none⟩ _) (fun _ h _ => h) (fun x hx _ => by simp at hx; simp [hx])
  · exact (hra.row hga.nums (by decide) hbg hg3).kp (Kp.setCell ⟨gb, 0, none⟩ _) (by simpa using hne) (by simpa using hgb)
theorem OneE.txt {x : List UInt8} (hk : Kp [R] w w2) (hg : GotSt w2 gbase gb vN vT N T) (hr2 : RR w2 base R A c l q 0) (hr : r = .inl (([], [x]), q)) (hbg : base ≤ gbase) (hgb : base ≤ gb)
    (ho3 : w3.ownsRow gbase 9 1 v3 (T.length + 1) (scells T ++ scells [bs x])) (hg3 : (w2.alloc o).grownBy w3 vT.ownBlock) : OneE base gbase R gb A c l vN vT N T r w (.returned (.tuple #[])) (w3.setCell ⟨gb, 1, none⟩ v3) := by
  subst hr
  have hba : Below w2.heap.size w2 (w2.alloc o) := (Below.refl _ _).alloc (Nat.le_refl _) _
  have hga := hg.later hba
  have hra := hr2.later hba
  have hne : R ≠ gb := fun e => hg.blk.ne_ (by rw [← e]; exact hr2.blk) (by decide) rfl
  refine ⟨rfl, ?_, ⟨vN, v3, by simpa using hga.txt hg3 ho3⟩, ?_⟩
  · exact ((hk.to (Kp.of_below (X := []) hba) (Z := [R]) (fun _ h _ => h) (fun _ h => by cases h)).to (Kp.of_grown hg3) (Z := R :: gb :: (vN.ownBlock.toList ++ vT.ownBlock.toList)) (fun x hx _ => by rw [List.mem_singleton.1 hx]; simp) (fun x hx _ => by simp at hx; simp [hx])).to (Kp.setCell ⟨gb, 1, none⟩ _) (fun _ h _ => h) (fun x hx _ => by simp at hx; simp [hx])
  · exact (hra.row hga.txts (by decide) hbg hg3).kp (Kp.setCell ⟨gb, 1, none⟩ _) (by simpa using hne) (by simpa using hgb)
theorem GotSt.kp {X : List Nat} {w' : World} (h : GotSt w2 gbase gb vN vT N T) (hk : Kp X w2 w') (hb : gb ∉ X) (hN : ∀ x ∈ X, vN.ownBlock ≠ some x) (hT : ∀ x ∈ X, vT.ownBlock ≠ some x) : GotSt w' gbase gb vN vT N T :=
  ⟨h.blk.kp hk hb, own_kp h.nums hk hN, own_kp h.txts hk hT⟩
theorem GotSt.txtL {L : List ByteArray} (h : GotSt w gbase gb vN vT N T) (hg : w.grownBy w3 vT.ownBlock) (ho : w3.ownsRow gbase 9 1 v3 (T.length + L.length) (scells T ++ scells L)) : GotSt (w3.setCell ⟨gb, 1, none⟩ v3) gbase gb vN v3 N (T ++ L) := by
  have hb := h.gT hg
  have ho' : w3.ownsRow gbase 9 1 v3 (T ++ L).length (scells (T ++ L)) := by rw [scells_append, List.length_append]; exact ho
  have ht : w3.ownsRow gbase 2 1 vN N.length (icells N) := own_kp h.nums (Kp.of_grown hg) (fun x hx e => own_own_ne h.nums h.txts (by decide) x e (by simpa using hx))
  exact ⟨hb.set_ 1 _, own_set ht hb (by decide) 1 _, own_set ho' hb (by decide) 1 _⟩
end

set_option maxRecDepth 100000 in
set_option maxHeartbeats 4000000 in
theorem list_any (base gbase R gb : Nat) (A : Option Addr) (c : Nat) (l : List UInt8) (p : Nat) (vN vT : Value) (N : List Int) (T : List ByteArray) (s : St) (w : World) (hk8 : s.k = 8)
    (hR : RR w base R A c l p 0) (hg : GotSt w gbase gb vN vT N T) (hbg : base ≤ gbase) (hgb : base ≤ gb) (hgz : gbase ≤ w.heap.size) (hNl : N.length ≤ 1099511627776) (hTl : T.length ≤ 1099511627776) :
    Calls Tryd.prog 72 #[.pointer (some ⟨R, 0, none⟩), .agg #[.int .i64 s.k, .int .i64 s.most, .int .i64 s.least, .int .i64 s.n], .pointer (some ⟨gb, 0, none⟩)] w (OneE base gbase R gb A c l vN vT N T (stepR s l p) w) := by
  obtain ⟨i0, hi0, hz0, hz1, hz2⟩ := info_parts i64_info
  obtain ⟨j0, hj0, hy0, hy1, hy2⟩ := info_parts str_info
  have hst : stepR s l p = ((gGet s.most s.least (gText s.most)).map fun L => ([(L.length : Int)], L)) l p := by simp [stepR, hk8]
  rw [hst]
  clear hst hk8
  obtain ⟨wa, hwa⟩ : ∃ wa, w.alloc (.cells #[.int .i64 s.k, .int .i64 s.most, .int .i64 s.least, .int .i64 s.n] 53) = wa := ⟨_, rfl⟩
  have hba : Below w.heap.size w wa := by rw [← hwa]; exact (Below.refl _ _).alloc (Nat.le_refl _) _
  have bA : Blk wa w.heap.size 53 #[.int .i64 s.k, .int .i64 s.most, .int .i64 s.least, .int .i64 s.n] := by rw [← hwa]; exact Blk.new _ _ _
  have a1 : wa.cell? ⟨w.heap.size, 1, none⟩ = some (.int .i64 s.most) := by rw [bA.cell 1]; rfl
  have a2 : wa.cell? ⟨w.heap.size, 2, none⟩ = some (.int .i64 s.least) := by rw [bA.cell 2]; rfl
  have HbA := Lib.hid bA
  have HBA := Lib.hid hba
  have HRa := Lib.hid (hR.later hba)
  have HGa := Lib.hid (hg.later hba)
  have hzR := hR.lt
  have hzG := hg.blk.lt
  have hzb : base ≤ w.heap.size := Nat.le_trans hbg hgz
  have hC := dCount base R A c l p wa s.most s.least HRa.out
  have HVT : Hid (∀ x, vT.ownBlock = some x → x < w.heap.size) := fun x e => (hg.txts.lt x e).2
  clear hR hg hba bA
  rcases hres : gCount s.most s.least l p with ⟨n, q0⟩ | ⟨er, q0⟩
  · rw [hres] at hC
    have HC := Lib.hid hC
    have hnb : n ≤ 2147483647 := gCount_bd hres
    have HN : Hid (∀ e, gMany (gText s.most) n l q0 = e → gGet s.most s.least (gText s.most) l p = e) := by
      intro e he
      unfold gGet Rg.bind
      rw [hres]
      exact he
    clear hC hres
    go_enter Tryd.func72, Tryd.ntmps72
    go_wp2_with (go_at_call 71
                 refine (HC.out).mono ?_
                 rintro e w2 ⟨⟨v, rfl, rfl⟩, hk2, hR2⟩
                 have HK2 : Hid (Kp [R] w w2) := (Kp.of_below (X := []) HBA.out).to hk2 (fun _ h => by cases h) (fun _ h _ => h)
                 have HG2 := Lib.hid (HGa.out.kpR HRa.out hk2)
                 have HS2 := Lib.hid (HbA.out.kp hk2 (by simp; omega))
                 have HR2 := Lib.hid hR2
                 have HZ2 : Hid (wa.heap.size ≤ w2.heap.size) := hk2.size
                 clear hk2 hR2)
    go_loopw [7, 8] (fun v i wr => ∃ (k : Nat) (L : List ByteArray), k ≤ n ∧ i = .int .i64 k ∧ L.length = k ∧ wr.ownsRow w.heap.size 9 1 v k (scells L) ∧ Kp [R] w wr ∧ GotSt wr gbase gb vN vT N T ∧ Blk wr w.heap.size 53 #[.int .i64 s.k, .int .i64 s.most, .int .i64 s.least, .int .i64 s.n] ∧ ((∃ (q : Nat) (ds : List (List UInt8)), L = ds.map bs ∧ after ds (gMany (gText s.most) (n - k) l q) = gMany (gText s.most) n l q0 ∧ RR wr base R A c l q 0) ∨ (∃ (q : Nat) (er : Int), er ≠ 0 ∧ gMany (gText s.most) n l q0 = .inr (er, q) ∧ RR wr base R A c l q er))) (fun _ i _ => n - (intOf i).toNat)
    case atStart => exact ⟨0, [], Nat.zero_le _, rfl, rfl, World.ownsRow_nil _ _ _ _, HK2.out, HG2.out, HS2.out, .inl ⟨q0, [], rfl, by rw [Nat.sub_zero]; rcases gMany (gText s.most) n l q0 with ⟨r, q'⟩ | e <;> rfl, HR2.out⟩⟩
    case round =>
      clear HK2 HG2 HS2 HR2 HZ2
      obtain ⟨k, L, hk, rfl, hL, hown, hkp, hg, hsb, hcase⟩ := hrel
      have g1 : wr.cell? ⟨w.heap.size, 1, none⟩ = some (.int .i64 s.most) := by rw [hsb.cell 1]; rfl
      have HKP := Lib.hid hkp
      have HG := Lib.hid hg
      have HSB := Lib.hid hsb
      have HLL := Lib.hid hL
      have HOWN := Lib.hid hown
      have hsz := hkp.size
      have hszb := hsb.lt
      obtain ⟨y0, y1, yf0, yf1⟩ := hg.cells
      clear hkp hg hsb hL hown
      rcases hcase with ⟨q, ds, hLd, hA, hR⟩ | ⟨q, er, hne, hA, hR⟩
      · obtain ⟨k0, k1, k2, kf1, kf2⟩ := hR.cells
        have HR := Lib.hid hR
        have HLD := Lib.hid hLd
        have HA := Lib.hid hA
        clear hR hLd hA
        by_cases hlt : k < n
        · obtain ⟨m, hm⟩ : ∃ m, n - k = m + 1 := ⟨n - k - 1, by omega⟩
          have hget := dText base R A c l q wr s.most HR.out (by omega)
          have HA' := HA.out
          rw [hm] at HA'
          have HM : Hid (n - (k + 1) = m) := by unfold Hid; omega
          rcases hgr : gText s.most l q with ⟨x, q1⟩ | ⟨er, q1⟩
          · rw [hgr] at hget
            have HGET := Lib.hid hget
            have HA2 : Hid (after (ds ++ [x]) (gMany (gText s.most) m l q1) = gMany (gText s.most) n l q0) := by
              show _ = _
              rw [← HA', after_step (gText s.most) ds m l q q1 x hgr]
            clear hget hgr HA' hm
            go_wp2_with (first
              | (go_at_call 70
                 with_reducible refine (HGET.out).mono ?_
                 rintro e w3 ⟨⟨v3, rfl, rfl⟩, hk3, hR3⟩
                 have hsz3 := hk3.size
                 have HK3 := Lib.hid (HKP.out.trans hk3)
                 have HOWN3 := Lib.hid (own_kp HOWN.out hk3 (fun y hy e => own_blk_ne HOWN.out HR.out.blk (by decide) (by rw [e, List.mem_singleton.1 hy])))
                 have HG3 := Lib.hid (HG.out.kpR HR.out hk3)
                 have HS3 := Lib.hid (HSB.out.kp hk3 (by have := HSB.out.ne_ HR.out.blk (by decide); simpa using this))
                 have HR3 := Lib.hid hR3
                 
                 clear hk3 hR3)
              | (at_builtin
                 refine wpList_append_any _ rfl (.tmp 27) (.tmp 32) _ rfl w.heap.size 9 j0 _ 1 16 Tryd.underlying26 hj0 hy0 hy1 hy2 rfl (by decide) u7 k (scells L) rfl (HOWN3.out.alloc _) (w3.heap.size + 1) (some ⟨w3.heap.size, 0, none⟩) 1 1 [.string ⟨x.toArray⟩] rfl (reads_lit w3 9 [_]) (by simp [Value.oneCell']) (by simp only [maxLen]; omega) (by omega) (by simp; omega) ?_
                 intro v1 w4 hown4 hg4 hat4
                 have hba4 : Below w3.heap.size w3 (w3.alloc (.cells #[.string ⟨x.toArray⟩] 9)) := (Below.refl _ _).alloc (Nat.le_refl _) _
                 have HK4 := Lib.hid (HK3.out.to ((Kp.alloc (X := []) _).to (Kp.of_grown hg4) (fun _ h => by cases h) (fun y hy hl => hy)) (fun y hy _ => hy) (fun y hy hl => by have := (HOWN3.out.lt y (by simpa using hy)).1; omega))
                 have HR4 : Hid (RR w4 base R A c l q1 0) := (HR3.out.later hba4).row (gbase := w.heap.size) (HOWN3.out.alloc _) (by decide) hzb hg4
                 have HG4 : Hid (GotSt w4 gbase gb vN vT N T) := (HG3.out.later hba4).kp (Kp.of_grown hg4) (fun hx => own_blk_ne HOWN3.out HG3.out.blk (by decide) (by simpa using hx)) (fun y hy e => own_own_ne HG3.out.nums HOWN3.out (by decide) y e (by simpa using hy)) (fun y hy e => by have := HVT.out y e; have := (HOWN3.out.lt y (by simpa using hy)).1; omega)
                 have HS4 : Hid (Blk w4 w.heap.size 53 #[.int .i64 s.k, .int .i64 s.most, .int .i64 s.least, .int .i64 s.n]) := (HS3.out.alloc _).grown hg4 (fun e => own_blk_ne HOWN3.out HS3.out (by decide) e.symm)
                 have HOWN4 := Lib.hid hown4
                 clear hat4 hg4 hown4 hba4))
            go_roundw
            case rel => exact ⟨k + 1, L ++ [⟨x.toArray⟩], by omega, by go_num, by rw [List.length_append, HLL.out]; rfl, by rw [scells_append]; exact HOWN4.out, HK4.out, HG4.out, HS4.out, .inl ⟨q1, ds ++ [x], by rw [List.map_append, HLD.out]; rfl, by rw [HM.out]; exact HA2.out, HR4.out⟩⟩
            case measure => simp [intOf]; omega
          · rw [hgr] at hget
            have HGET := Lib.hid hget
            have HE : Hid (gMany (gText s.most) n l q0 = .inr (er, q1)) := by
              show _ = _
              rw [← HA', gMany_succ, hgr]
              rfl
            clear hget hgr HA' hm
            go_wp2_with (first
              | (go_at_call 70
                 with_reducible refine (HGET.out).mono ?_
                 rintro e w3 ⟨rfl, hne3, hk3, hR3⟩
                 have hsz3 := hk3.size
                 have HK3 := Lib.hid (HKP.out.trans hk3)
                 have HOWN3 := Lib.hid (own_kp HOWN.out hk3 (fun y hy e => own_blk_ne HOWN.out HR.out.blk (by decide) (by rw [e, List.mem_singleton.1 hy])))
                 have HG3 := Lib.hid (HG.out.kpR HR.out hk3)
                 have HS3 := Lib.hid (HSB.out.kp hk3 (by have := HSB.out.ne_ HR.out.blk (by decide); simpa using this))
                 have HR3 := Lib.hid hR3
                 have HNE3 := Lib.hid hne3
                 clear hk3 hR3 hne3)
              | (at_builtin
                 refine wpList_append_any _ rfl (.tmp 27) (.tmp 32) _ rfl w.heap.size 9 j0 _ 1 16 Tryd.underlying26 hj0 hy0 hy1 hy2 rfl (by decide) u7 k (scells L) rfl (HOWN3.out.alloc _) (w3.heap.size + 1) (some ⟨w3.heap.size, 0, none⟩) 1 1 [.string ⟨#[]⟩] rfl (reads_lit w3 9 [_]) (by simp [Value.oneCell']) (by simp only [maxLen]; omega) (by omega) (by simp; omega) ?_
                 intro v1 w4 hown4 hg4 hat4
                 have hba4 : Below w3.heap.size w3 (w3.alloc (.cells #[.string ⟨#[]⟩] 9)) := (Below.refl _ _).alloc (Nat.le_refl _) _
                 have HK4 := Lib.hid (HK3.out.to ((Kp.alloc (X := []) _).to (Kp.of_grown hg4) (fun _ h => by cases h) (fun y hy hl => hy)) (fun y hy _ => hy) (fun y hy hl => by have := (HOWN3.out.lt y (by simpa using hy)).1; omega))
                 have HR4 : Hid (RR w4 base R A c l q1 er) := (HR3.out.later hba4).row (gbase := w.heap.size) (HOWN3.out.alloc _) (by decide) hzb hg4
                 have HG4 : Hid (GotSt w4 gbase gb vN vT N T) := (HG3.out.later hba4).kp (Kp.of_grown hg4) (fun hx => own_blk_ne HOWN3.out HG3.out.blk (by decide) (by simpa using hx)) (fun y hy e => own_own_ne HG3.out.nums HOWN3.out (by decide) y e (by simpa using hy)) (fun y hy e => by have := HVT.out y e; have := (HOWN3.out.lt y (by simpa using hy)).1; omega)
                 have HS4 : Hid (Blk w4 w.heap.size 53 #[.int .i64 s.k, .int .i64 s.most, .int .i64 s.least, .int .i64 s.n]) := (HS3.out.alloc _).grown hg4 (fun e => own_blk_ne HOWN3.out HS3.out (by decide) e.symm)
                 have HOWN4 := Lib.hid hown4
                 clear hat4 hg4 hown4 hba4))
            go_roundw
            case rel => exact ⟨k + 1, L ++ [⟨#[]⟩], by omega, by go_num, by rw [List.length_append, HLL.out]; rfl, by rw [scells_append]; exact HOWN4.out, HK4.out, HG4.out, HS4.out, .inr ⟨q1, er, HNE3.out, HE.out, HR4.out⟩⟩
            case measure => simp [intOf]; omega
        · have hkn : k = n := by omega
          have hga : gGet s.most s.least (gText s.most) l p = .inl (ds, q) := by
            refine HN.out _ ?_
            rw [← HA.out, show n - k = 0 by omega]
            show (Sum.inl (ds ++ [], q) : (List (List UInt8) × Nat) ⊕ (Int × Nat)) = _
            rw [List.append_nil]
          have hdl : ds.length = k := by have := HLL.out; rw [HLD.out, List.length_map] at this; exact this
          have HST : Hid (((gGet s.most s.least (gText s.most)).map fun L => ([(L.length : Int)], L)) l p = .inl (([(k : Int)], ds), q)) := by
            unfold Hid Rg.map
            rw [hga]
            dsimp only
            rw [hdl]
          obtain ⟨AL, cL, hu7⟩ := slice_form HOWN.out
          have HKN := Lib.hid hkn
          have HNK : Hid (n = k) := hkn.symm
          clear hkn hga hdl HA
          subst hu7
          have hnk := HNK.out
          subst hnk
          clear HNK HKN
          go_wp2_with (first
            | (at_builtin
               refine wpList_append_any _ rfl (.tmp 43) (.tmp 45) _ rfl gbase 2 i0 _ 1 8 Tryd.underlying25 hi0 hz0 hz1 hz2 rfl (by decide) vN N.length (icells N) rfl (World.ownsRow.alloc HG.out.nums _) (wr.heap.size + 1) (some ⟨wr.heap.size, 0, none⟩) 1 1 (icells [(n : Int)]) rfl (reads_lit wr 2 [_]) (icells_one _) (by simp only [maxLen]; omega) (by omega) (by simp; omega) ?_
               intro v3 w3 ho3 hg3 hat3
               have hba3 : Below wr.heap.size wr (wr.alloc (.cells #[.int .i64 n] 2)) := (Below.refl _ _).alloc (Nat.le_refl _) _
               have hga := HG.out.later hba3
               have hb3 := hga.gN hg3
               have q0' : w3.cell? ⟨gb, 0, none⟩ = some vN := (by rw [hb3.cell 0]; rfl)
               have qf0 := hb3.frozen 0
               obtain ⟨w4, hw4⟩ : ∃ w4, w3.setCell ⟨gb, 0, none⟩ v3 = w4 := ⟨_, rfl⟩
               have HG4 : Hid (GotSt w4 gbase gb v3 vT (N ++ [(n : Int)]) T) := (by unfold Hid; rw [← hw4]; exact hga.num hg3 ho3)
               have HR4 : Hid (RR w4 base R A c l q 0) := (by
                 unfold Hid
                 rw [← hw4]
                 exact ((HR.out.later hba3).row hga.nums (by decide) hbg hg3).kp (Kp.setCell ⟨gb, 0, none⟩ _) (by have := HG.out.blk.ne_ HR.out.blk (by decide); simpa using Ne.symm this) (by simpa using hgb))
               have HK4 : Hid (Kp (R :: gb :: (vN.ownBlock.toList ++ vT.ownBlock.toList)) w w4) := (by
                 unfold Hid
                 rw [← hw4]
                 exact ((HKP.out.to (Kp.of_below (X := []) hba3) (Z := [R]) (fun _ h _ => h) (fun _ h => by cases h)).to (Kp.of_grown hg3) (Z := R :: gb :: (vN.ownBlock.toList ++ vT.ownBlock.toList)) (fun x hx _ => by rw [List.mem_singleton.1 hx]; simp) (fun x hx _ => by simp at hx; simp [hx])).to (Kp.setCell ⟨gb, 0, none⟩ _) (fun _ h _ => h) (fun x hx _ => by simp at hx; simp [hx]))
               have HO4 : Hid (w4.ownsRow w.heap.size 9 1 (.slice AL n cL) n (scells L)) := (by
                 unfold Hid
                 rw [← hw4]
                 have hd := own_kp (HOWN.out.alloc (.cells #[.int .i64 n] 2)) (Kp.of_grown hg3) (fun x hx e => own_own_ne hga.nums (HOWN.out.alloc (.cells #[.int .i64 n] 2)) (by decide) x (by simpa using hx) e)
                 exact own_set hd hb3 (by decide) 0 _)
               have y41 : w4.cell? ⟨gb, 1, none⟩ = some vT := HG4.out.cells.2.1
               have yf41 := HG4.out.cells.2.2.2
               have HZ4 : Hid (gbase ≤ w4.heap.size) := (by unfold Hid; have := HK4.out.size; omega)
               obtain ⟨A3, c3, rfl⟩ := slice_form ho3
               clear ho3 hg3 hat3 hba3 hga hb3)
            | (at_builtin
               refine wpList_append_any _ rfl (.tmp 53) (.tmp 54) _ rfl gbase 9 j0 _ 1 16 Tryd.underlying26 hj0 hy0 hy1 hy2 rfl (by decide) vT T.length (scells T) rfl HG4.out.txts w4.heap.size AL n cL (scells L) rfl (Reads.of_own HO4.out) (scells_one _) (by simp only [maxLen]; omega) (by omega) HZ4.out ?_
               intro v5 w5 ho5 hg5 hat5
               have hb5 := HG4.out.gT hg5
               have q1' : w5.cell? ⟨gb, 1, none⟩ = some vT := (by rw [hb5.cell 1]; rfl)
               have qf1 := hb5.frozen 1
               have HG5 : Hid (GotSt (w5.setCell ⟨gb, 1, none⟩ v5) gbase gb (.slice A3 (N.length + 1) c3) v5 (N ++ [(n : Int)]) (T ++ L)) := HG4.out.txtL hg5 (by rw [HLL.out]; exact ho5)
               have HR5 : Hid (RR (w5.setCell ⟨gb, 1, none⟩ v5) base R A c l q 0) := (HR4.out.row HG4.out.txts (by decide) hbg hg5).kp (Kp.setCell ⟨gb, 1, none⟩ _) (by have := HG4.out.blk.ne_ HR4.out.blk (by decide); simpa using Ne.symm this) (by simpa using hgb)
               have HK5 : Hid (Kp (R :: gb :: (vN.ownBlock.toList ++ vT.ownBlock.toList)) w (w5.setCell ⟨gb, 1, none⟩ v5)) := (HK4.out.to (Kp.of_grown hg5) (fun _ h _ => h) (fun x hx _ => by simp at hx; simp [hx])).to (Kp.setCell ⟨gb, 1, none⟩ _) (fun _ h _ => h) (fun x hx _ => by simp at hx; simp [hx])
               obtain ⟨A5, c5, rfl⟩ := slice_form ho5
               clear ho5 hg5 hat5 hb5))
          go_end0
          refine ⟨rfl, HK5.out, ?_⟩
          rw [HST.out]
          exact ⟨⟨_, _, by rw [← HLD.out]; exact HG5.out⟩, HR5.out⟩
      · obtain ⟨k0, k1, k2, kf1, kf2⟩ := hR.cells
        have HR := Lib.hid hR
        have HST : Hid (((gGet s.most s.least (gText s.most)).map fun L => ([(L.length : Int)], L)) l p = .inr (er, q)) := by
          unfold Hid Rg.map
          rw [HN.out _ hA]
        have HNE := Lib.hid hne
        have hnb : (er == 0) = false := by simp [hne]
        clear hR hA hne
        by_cases hlt : k < n
        · go_wp2
          go_end0
          exact OneE.no HKP.out HG.out HR.out HNE.out HST.out
        · go_wp2
          go_end0
          exact OneE.no HKP.out HG.out HR.out HNE.out HST.out
  · rw [hres] at hC
    have HC := Lib.hid hC
    have HST : Hid (((gGet s.most s.least (gText s.most)).map fun L => ([(L.length : Int)], L)) l p = .inr (er, q0)) := by
      unfold Hid Rg.map gGet Rg.bind
      rw [hres]
    clear hC hres
    go_enter Tryd.func72, Tryd.ntmps72
    go_wp2_with (go_at_call 71
                 refine (HC.out).mono ?_
                 rintro e w2 ⟨rfl, hne, hk2, hR2⟩
                 have HK2 : Hid (Kp [R] w w2) := (Kp.of_below (X := []) HBA.out).to hk2 (fun _ h => by cases h) (fun _ h _ => h)
                 have HG2 := Lib.hid (HGa.out.kpR HRa.out hk2)
                 obtain ⟨k0, k1, k2, kf1, kf2⟩ := hR2.cells
                 have HR2 := Lib.hid hR2
                 have hnb : (er == 0) = false := (by simp [hne])
                 have HNE := Lib.hid hne
                 clear hk2 hR2 hne)
    go_loopw [7, 8] (fun v i wr => Value.slice none 0 0 = v ∧ i = .int .i64 0 ∧ w2 = wr) (fun _ _ _ => 0)
    case atStart => exact ⟨rfl, rfl, rfl⟩
    case round =>
      obtain ⟨rfl, rfl, rfl⟩ := hrel
      go_wp2
      go_end0
      exact OneE.no HK2.out HG2.out HR2.out HNE.out HST.out
end Go.Proofs.YtbegingiedbldaaDoor
