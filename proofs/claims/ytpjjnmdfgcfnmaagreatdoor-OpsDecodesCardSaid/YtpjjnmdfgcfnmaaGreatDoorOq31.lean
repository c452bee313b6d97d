/- What must be so of any program that has this layer. (printed by gen_p31.py) -/
import Derived.Test.YtpjjnmdfgcfnmaaGreatDoorOqp
import Derived.Test.YtpjjnmdfgcfnmaaGreatDoorOqn
set_option linter.unusedVariables false
set_option linter.unusedSimpArgs false
namespace Go.Proofs.YtpjjnmdfgcfnmaaGreatDoor
open Go.RowKit

theorem hidT {w w1 w2 : World} (h : Hid (Below w.heap.size w w1)) (k : Below w1.heap.size w1 w2) : Hid (Below w.heap.size w w2) := Lib.hid (h.out.trans (k.mono h.out.size))
theorem newB {w w' : World} {x} (h : w.alloc x = w') : Below w.heap.size w w' := by subst h; exact (Below.refl _ _).alloc (Nat.le_refl _) _
theorem newK {w w' : World} {t : TypeId} {cs : Array Value} (h : w.alloc (.cells cs t) = w') : Blk w' w.heap.size t cs := by subst h; exact Blk.new _ _ _
theorem wpAt (n : Nat) {a b c d e r P Q p f w} (h : wpList p f w (Oper.mk (some n) a b c d e :: r) P Q) : wpList p f w (Oper.mk (some n) a b c d e :: r) P Q := h
theorem rightE_mk {x : OpC} (h1 : x.allE = 0) (h2 : x.depth ≤ 8) (h3 : x.parts ≤ 1024) (h4 : x.multis ≤ 1024) : x.rightE = 0 := by
  unfold OpC.rightE
  rw [if_neg (by simpa using h1), if_neg]
  simp only [Bool.or_eq_true, decide_eq_true_eq, not_or]
  omega
theorem decO_of {l : List UInt8} {y : Int × OpC} {q : Nat} (h : gReq l 0 = .inl (y, q)) : decO l = if q < l.length then .inl ((q : Int), 21) else .inr y := by
  unfold decO
  rw [h]
theorem decO_eq {l : List UInt8} {y : Int × OpC} {q : Nat} (h : gReq l 0 = .inl (y, q)) (hq : q = l.length) : decO l = .inr y := by
  rw [decO_of h, if_neg (by omega)]
theorem decO_lt {l : List UInt8} {y : Int × OpC} {q : Nat} (h : gReq l 0 = .inl (y, q)) (hq : q < l.length) : decO l = .inl ((q : Int), 21) := by
  rw [decO_of h, if_pos hq]
def aliveF : OpF := ⟨2, ⟨#[47, 97]⟩, [], [], 0, -1, false, 0, 0, 0, 0, [], [], [], [], [], 0, []⟩
def aliveX : OpC := .mk aliveF []
theorem aliveF_ok : aliveF.Ok := ⟨rfl, rfl, rfl, rfl, rfl, rfl, rfl, rfl, (by show (2 : Nat) ≤ reachBytes; unfold reachBytes; omega), fun _ h => (nomatch h), fun _ h => (nomatch h), fun _ h => (nomatch h), fun _ h => (nomatch h), fun _ h => (nomatch h), fun _ h => (nomatch h), fun _ h => (nomatch h)⟩
theorem alive_own : ownE aliveF 0 = 0 := by kernel_rfl
theorem alive_all : aliveX.allE = 0 := by
  unfold aliveX
  rw [OpC.allE, show ([] : List OpC).length = 0 from rfl, alive_own, if_neg (by simp), allL]
theorem alive_right : aliveX.rightE = 0 := rightE_mk alive_all (by unfold aliveX; rw [OpC.depth, if_neg (by decide)]; omega) (by unfold aliveX; rw [OpC.parts, if_neg (by decide)]; omega) (by unfold aliveX; rw [OpC.multis, if_neg (by decide)]; omega)
theorem alive_enc : aliveX.encE = 0 := by
  unfold OpC.encE
  rw [alive_right, if_neg (by simp), if_neg (by decide)]
def aliveB : List UInt8 := [0, 0, 0, 1, 0, 0, 0, 2, 0, 0, 0, 2, 47, 97, 255, 255, 255, 255]
theorem alive_bytes : encB 1 aliveX = aliveB := by
  unfold encB aliveX
  rw [OpC.putB, if_neg (by decide)]
  kernel_rfl
theorem alive_req : gReq aliveB 0 = .inl ((1, aliveX), 18) := by kernel_rfl
theorem alive_req0 : gReq (aliveB ++ [0]) 0 = .inl ((1, aliveX), 18) := by kernel_rfl
theorem get_two (n : Nat) : GetT 2 n := fun B R c p C A l k w _ h hC hCR _ hk _ _ => getX_of (get_g2 2 (by decide) B R c p A l w _ h) (opWith_fld (by decide) (by decide)) hC hCR hk
theorem alive_types {l : List UInt8} (h1 : gInt l 0 = .inl (1, 4)) (h2 : gInt l 4 = .inl (2, 8)) (z : Int) (q : Nat) (t : Int) (q' : Nat) (h3 : gInt l 0 = .inl (z, q)) (h4 : gInt l q = .inl (t, q')) : GetT t (l.length + 1) := by
  rw [h1] at h3
  injection h3 with h3
  injection h3 with _ h3
  subst h3
  rw [h2] at h4
  injection h4 with h4
  injection h4 with h4 _
  subst h4
  exact get_two _
theorem alive_typesA (z : Int) (q : Nat) (t : Int) (q' : Nat) : gInt (encB 1 aliveX) 0 = .inl (z, q) → gInt (encB 1 aliveX) q = .inl (t, q') → GetT t ((encB 1 aliveX).length + 1) := by
  rw [alive_bytes]; exact alive_types (by kernel_rfl) (by kernel_rfl) z q t q'
theorem alive_typesB (z : Int) (q : Nat) (t : Int) (q' : Nat) : gInt (encB 1 aliveX ++ [0]) 0 = .inl (z, q) → gInt (encB 1 aliveX ++ [0]) q = .inl (t, q') → GetT t ((encB 1 aliveX ++ [0]).length + 1) := by
  rw [alive_bytes]; exact alive_types (by kernel_rfl) (by kernel_rfl) z q t q'
theorem alive_len : (encB 1 aliveX).length = 18 := by
  unfold encB aliveX
  rw [OpC.putB, if_neg (by decide)]
  show (bInt 1 ++ bInt 2 ++ (bBuf [47, 97] ++ bInt (-1))).length = 18
  simp only [List.length_append, bInt_len, bBuf_len, List.length_cons, List.length_nil]
theorem alive_bulk : aliveX.bulk ≤ 1000000000 := by
  unfold aliveX
  rw [OpC.bulk, bulkL]
  decide
theorem alive_nodes : aliveX.nodes ≤ 1000000 := by
  unfold aliveX
  rw [OpC.nodes, nodesL]
  decide
theorem alive_flat : aliveX.flatten = [aliveX] := by
  unfold OpC.flatten
  rw [alive_right, if_neg (by simp)]
  unfold aliveX
  rw [OpC.flat, if_neg (by decide)]
def aliveR : List Value := aliveF.row nilS nilS nilS nilS nilS nilS nilS nilS nilS
theorem alive_at (w : World) : At w (some 0) aliveX aliveR := .mk aliveF nilS nilS nilS nilS nilS nilS nilS nilS nilS [] aliveF_ok (SlAt.zero _ _ _ _ _) (SlAt.zero _ _ _ _ _) (SlAt.zero _ _ _ _ _) (SlAt.zero _ _ _ _ _) (SlAt.zero _ _ _ _ _) (SlAt.zero _ _ _ _ _) (SlAt.zero _ _ _ _ _) (SlAt.zero _ _ _ _ _) (SlAt.zero _ _ _ _ _) (fun _ h => by cases h)
theorem At.c1 {w : World} {lo : Option Nat} {x : OpC} {cs : List Value} (h : At w lo x cs) : cs[1]? = some (.string x.f.p) := by
  cases h
  rfl
theorem At.c5 {w : World} {lo : Option Nat} {x : OpC} {cs : List Value} (h : At w lo x cs) : cs[5]? = some (.int .i32 x.f.ve) := by
  cases h
  rfl
theorem own_capO {w : World} {base size n c : Nat} {e : TypeId} {A : Option Addr} {xs : List Value} (h : w.ownsRow base e size (.slice A n c) n xs) : n ≤ c := by
  rcases h.2 with ⟨h1, h2⟩ | ⟨g, cap, cur, h1, _, _, hc, _⟩
  · injection h1 with _ h3 h4
    omega
  · injection h1 with _ _ h3
    omega
theorem reads_litO (w : World) (t : TypeId) (fr : Nat × Nat) (xs : List Value) : Reads (w.alloc (.cells xs.toArray t fr)) (w.heap.size + 1) 1 (some ⟨w.heap.size, 0, none⟩) xs.length xs :=
  ⟨by simp, fun _ => ⟨_, rfl, Nat.lt_succ_self _, fun j u hu => by
    have h := cell_of_row (w.alloc (.cells xs.toArray t fr)) w.heap.size j xs.toArray t fr (heap_alloc_new w _)
    rw [Go.WideShapes.add_plain, Nat.zero_add, h]
    simpa using hu⟩⟩
theorem own_lowO {w : World} {b b' size n : Nat} {e : TypeId} {v : Value} {xs : List Value} (h : w.ownsRow b e size v n xs) (hb : b' ≤ b) : w.ownsRow b' e size v n xs :=
  ⟨h.1, h.2.imp id fun ⟨g, cap, cur, h1, h2, h3⟩ => ⟨g, cap, cur, h1, Nat.le_trans hb h2, h3⟩⟩
/-- a row of an operation's cells, in a request -/
structure ReqRow (w : World) (g : Nat) (z : Int) (x : OpC) (cs : List Value) : Prop where
  blk : Blk w g 44 (Value.int .i32 z :: cs).toArray
  c0 : w.cell? ⟨g, 0, none⟩ = some (.int .i32 z)
  cp : w.cell? ⟨g, 2, none⟩ = some (.string x.f.p)
  cv : w.cell? ⟨g, 6, none⟩ = some (.int .i32 x.f.ve)
  row : ∀ j v, cs[j]? = some v → w.cell? ((⟨g, 1, none⟩ : Addr).add j) = some v
theorem ReqRow.mk' {w w0 : World} {lo : Option Nat} {g : Nat} {z : Int} {x : OpC} {cs : List Value} (h : Blk w g 44 (Value.int .i32 z :: cs).toArray) (ha : At w0 lo x cs) : ReqRow w g z x cs :=
  ⟨h, blk_cell h 0 rfl, blk_cell h 2 (by have := ha.c1; simpa using this), blk_cell h 6 (by have := ha.c5; simpa using this), fun j v hv => by
    rw [Go.WideShapes.add_plain, Nat.add_comm]
    exact blk_cell h (j + 1) (by simpa using hv)⟩
theorem dec_alive1 {w w' : World} {e : Ending} (h : Decoded (encB 1 aliveX) w e w') : Below w.heap.size w w' ∧ ∃ cs : List Value, e = .returned (.tuple #[.agg (Value.int .i32 1 :: cs).toArray, .int .i64 0, .int .i64 0]) ∧ At w' (some w.heap.size) aliveX cs := by
  obtain ⟨h1, h2⟩ := h
  rw [alive_bytes, decO_eq alive_req rfl] at h2
  exact ⟨h1, h2⟩
theorem dec_alive2 {w w' : World} {e : Ending} (h : Decoded (encB 1 aliveX ++ [0]) w e w') : Below w.heap.size w w' ∧ e = .returned (.tuple #[.agg zReq.toArray, .int .i64 18, .int .i64 21]) := by
  obtain ⟨h1, h2⟩ := h
  rw [alive_bytes, decO_lt alive_req0 (by decide)] at h2
  exact ⟨h1, h2.2.2⟩
theorem enc_alive {w w' : World} {e : Ending} (h : Encoded w 1 aliveX e w') : Below w.heap.size w w' ∧ ∃ base A c, w.heap.size ≤ base ∧ e = .returned (.tuple #[.slice A 18 c, .int .i64 0]) ∧ w'.ownsRow base 5 1 (.slice A 18 c) 18 (bcells (encB 1 aliveX)) := by
  obtain ⟨h1, h2 | ⟨_, h2⟩⟩ := h
  · exact absurd alive_enc h2.1
  · rw [alive_len] at h2
    exact ⟨h1, h2⟩
theorem list_alive {w w' : World} {e : Ending} (h : Listed w aliveX.flatten e w') : Below w.heap.size w w' ∧ ∃ A c, e = .returned (.slice A 1 c) := by
  obtain ⟨A, c, R, base, h1, h2, h3, h4, h5⟩ := h
  rw [alive_flat] at h2
  have : R.length = 1 := by have := congrArg List.length h2; simpa using this
  rw [this] at h1
  exact ⟨h5, A, c, h1⟩
set_option maxRecDepth 100000 in
set_option maxHeartbeats 8000000 in
theorem alive_of (w : World) (E : Env w) (RX : ∀ {W : World} {lo : Option Nat} {xs : List Value}, At W lo aliveX xs → Env W → Calls Tryz.prog 13 #[.agg xs.toArray] W fun e w' => e = .returned (.int .i64 aliveX.rightE) ∧ Below W.heap.size W w') (PX : ∀ {W0 : World} {lo : Option Nat} {xs : List Value}, At W0 lo aliveX xs → ∀ (W : World) (base g : Nat) (v : Value) (l : List UInt8), W0.heap.size ≤ base → base ≤ g → Below W0.heap.size W0 W → Wr W base g v l → base ≤ W.heap.size → l.length + aliveX.putB.length + 64 ≤ 140737488355328 →
    Calls Tryz.prog 23 #[.pointer (some ⟨g, 0, none⟩), .agg xs.toArray] W fun e w' => e = .returned (.tuple #[]) ∧ ∃ v', Wrote base g v v' l aliveX.putB W w') : Calls Tryz.prog 9 #[] w fun e w' => e = .returned (.bool true) ∧ Below w.heap.size w w' := by
  have HE1 := Lib.hid (fun W (h : Below w.heap.size w W) => E.below h)
  have henc : Calls Tryz.prog 21 #[.agg #[.int .i32 1, .int .i32 2, .string ⟨#[47, 97]⟩, .slice none 0 0, .slice none 0 0, .int .i32 0, .int .i32 (-1), .bool false, .int .i64 0, .int .i64 0, .int .i64 0, .int .i64 0, .slice none 0 0, .slice none 0 0, .slice none 0 0, .slice none 0 0, .slice none 0 0, .int .i32 0, .slice none 0 0, .slice none 0 0]] w (Encoded w 1 aliveX) := encode_of 1 (alive_at w) alive_bulk (fun W hW => RX ((alive_at w).later hW) (E.below hW)) (PX (alive_at w))
  have HENC := Lib.hid (henc.mono fun e w' h => enc_alive h)
  have HLEN := Lib.hid alive_len
  have HCL : Hid ((encB 1 aliveX ++ [0]).length = 19) := by unfold Hid; rw [List.length_append, alive_len]; rfl
  obtain ⟨i0, hi0, hz0, hzi1, hzi2⟩ := info_parts u8_info
  have HBCN : Hid (bcells (encB 1 aliveX) ++ [.int .u8 0] = bcells (encB 1 aliveX ++ [0])) := by unfold Hid bcells; rw [List.map_append]; rfl
  have HRX : Hid (∀ {W : World} {lo : Option Nat} {xs : List Value}, At W lo aliveX xs → Env W → Calls Tryz.prog 13 #[.agg xs.toArray] W fun e w' => e = .returned (.int .i64 aliveX.rightE) ∧ Below W.heap.size W w') := RX
  clear E henc RX PX
  go_enter Tryz.func9, Tryz.ntmps9
  go_wp2_with (first
    | (go_at_call 21
       refine HENC.out.mono ?_
       rintro e w2 ⟨hb2, base, A, c, hbase, rfl, ho⟩
       have HB2 := Lib.hid hb2
       have HO2 := Lib.hid ho
       have HBS := Lib.hid hbase
       have HD := Lib.hid (opDecode_of c 18 A (encB 1 aliveX) w2 alive_typesA (Reads.of_own ho) (own_capO ho) (by omega) (fun h => (own_nil ho h).2) (HE1.out _ hb2))
       clear hb2 ho hbase)
    | (go_at_call 27
       refine HD.out.mono ?_
       rintro e w3 hd
       obtain ⟨hb3, cs, rfl, hat⟩ := dec_alive1 hd
       have HB3 := hidT HB2 hb3
       have hz23 := hb3.size
       have HO3 := Lib.hid (own_below HO2.out hb3)
       have HAT := Lib.hid hat
       obtain ⟨cq, hcq⟩ : ∃ x, x = (Value.int .i32 1 :: cs).toArray := ⟨_, rfl⟩
       rw [← hcq]
       have HCQ := Lib.hid hcq
       have hsz : 20 = cq.size := (by rw [hcq, List.size_toArray, List.length_cons, hat.len])
       have HSZ := Lib.hid hsz
       have HZE : Hid (((Tryz.prog.info? 44).bind (·.zero)).map (·.cells.size) = some cq.size) := (by unfold Hid; rw [← hsz]; kernel_rfl)
       have HIS : Hid ((Tryz.prog.info? 44).map (·.size) = some cq.size) := (by unfold Hid; rw [← hsz]; exact req_size)
       have HON : Hid (cq.all (·.oneCell') = true) := (by
         unfold Hid
         have := hat.one
         rw [Array.all_eq_true_iff_forall_mem] at this ⊢
         intro v hv
         rw [hcq] at hv
         rcases List.mem_cons.1 (by simpa using hv) with rfl | hv
         · rfl
         · exact this v (by simpa using hv))
       have HI19 : Hid ((Tryz.prog.info? 29).map (·.size) = some cs.length) := (by unfold Hid; rw [hat.len]; exact isz_29)
       clear hd hb3 hat hcq hsz HD)
    | (with_reducible refine wpAt 3 ?_
       refine wpList_newrow rfl rfl 44 rfl 3 rfl (.tmp 18) rfl rfl cq (fun _ => rfl) (show 3 < 76 by decide) HZE.out HIS.out HON.out ?_
       obtain ⟨w4, hnew⟩ : ∃ x, w3.alloc (.cells cq 44) = x := ⟨_, rfl⟩
       rw [hnew]
       have hbn := newB hnew
       have HB4 := hidT HB3 hbn
       have HB34 := Lib.hid hbn
       have HR4 : Hid (ReqRow w4 w3.heap.size 1 aliveX cs) := ReqRow.mk' (by rw [← hnew, HCQ.out]; exact Blk.new _ _ _) HAT.out
       have HOL : Hid (w4.ownsRow w.heap.size 5 1 (.slice A 18 c) 18 (bcells (encB 1 aliveX))) := own_lowO (own_below HO3.out hbn) HBS.out
       have hz4 : w3.heap.size ≤ w4.heap.size := hbn.size
       have hz40 := HB4.out.size
       clear hnew hbn)
    | (with_reducible refine wpAt 24 ?_; refine Hid.out ?_))
  refine Lib.hid ?_
  refine wpList_append_any _ rfl (.tmp 22) (.tmp 23) _ rfl w.heap.size 5 i0 _ 1 1 Tryz.underlying22 hi0 hz0 hzi1 hzi2 rfl (by decide) (.slice A 18 c) 18 (bcells (encB 1 aliveX)) rfl (World.ownsRow.alloc HOL.out _) (w4.heap.size + 1) (some ⟨w4.heap.size, 0, none⟩) 1 1 [.int .u8 0] rfl (reads_litO w4 5 _ [.int .u8 0]) (fun u hu => by simp at hu; subst hu; rfl) (by unfold maxLen; omega) (by omega) (by simp; omega) ?_
  intro v6 w6 hown6 hg6 hat6
  obtain ⟨A6, c6, rfl⟩ := slice_form hown6
  rw [HBCN.out] at hown6
  have hb5 : Below w4.heap.size w4 (w4.alloc (.cells #[.int .u8 0] 5)) := (Below.refl _ _).alloc (Nat.le_refl _) _
  have HB6 : Hid (Below w.heap.size w w6) := (HB4.out.trans (hb5.mono HB4.out.size)).grown hg6 (by simp; omega) (fun k hk => (HOL.out.lt k hk).1)
  have HR6 : Hid (ReqRow w6 w3.heap.size 1 aliveX cs) := ReqRow.mk' ((HR4.out.blk.below hb5 HR4.out.blk.lt).grown hg6 (fun h => by have := HO2.out.lt _ h.symm; omega)) HAT.out
  have HAT6 : Hid (At w6 (some w2.heap.size) aliveX cs) := ((HAT.out.later HB34.out).later hb5).window rfl (fun k hk hl => hg6.block k hl (fun h => by have := HO2.out.lt _ h.symm; omega))
  have HD := Lib.hid (opDecode_of c6 19 A6 (encB 1 aliveX ++ [0]) w6 alive_typesB (Reads.of_own hown6) (own_capO hown6) (by omega) (fun h => (own_nil hown6 h).2) (HE1.out _ HB6.out))
  clear hown6 hg6 hat6 hb5
  go_wp2_with (first
    | (go_at_call 27
       refine HD.out.mono ?_
       rintro e w7 hd
       obtain ⟨hb7, rfl⟩ := dec_alive2 hd
       have HB7 := hidT HB6 hb7
       have HR7 := Lib.hid (ReqRow.mk' (HR6.out.blk.below hb7 HR6.out.blk.lt) HAT.out)
       have HAT7 := Lib.hid (HAT6.out.later hb7)
       clear hd hb7)
    | (with_reducible refine wpAt 6 ?_
       refine wpList_newrow rfl rfl 44 rfl 6 rfl (.tmp 26) rfl rfl #[.int .i32 0, .int .i32 0, .string ⟨#[]⟩, .slice none 0 0, .slice none 0 0, .int .i32 0, .int .i32 0, .bool false, .int .i64 0, .int .i64 0, .int .i64 0, .int .i64 0, .slice none 0 0, .slice none 0 0, .slice none 0 0, .slice none 0 0, .slice none 0 0, .int .i32 0, .slice none 0 0, .slice none 0 0] (fun _ => rfl) (show 6 < 76 by decide) (by kernel_rfl) req_size (by simp [Value.oneCell']) ?_
       obtain ⟨w8, hnew⟩ : ∃ x, w7.alloc (.cells #[.int .i32 0, .int .i32 0, .string ⟨#[]⟩, .slice none 0 0, .slice none 0 0, .int .i32 0, .int .i32 0, .bool false, .int .i64 0, .int .i64 0, .int .i64 0, .int .i64 0, .slice none 0 0, .slice none 0 0, .slice none 0 0, .slice none 0 0, .slice none 0 0, .int .i32 0, .slice none 0 0, .slice none 0 0] 44) = x := ⟨_, rfl⟩
       rw [hnew]
       have hbn := newB hnew
       have HB8 := hidT HB7 hbn
       have HR8 := Lib.hid (ReqRow.mk' (HR7.out.blk.below hbn HR7.out.blk.lt) HAT.out)
       have hc1 := HR8.out.c0
       have hc2 : w8.cell? ⟨w3.heap.size, 2, none⟩ = some (.string ⟨#[47, 97]⟩) := HR8.out.cp
       have hc3 : w8.cell? ⟨w3.heap.size, 6, none⟩ = some (.int .i32 (-1)) := HR8.out.cv
       have HFL := Lib.hid (flatten_of (HAT7.out.later hbn) alive_nodes fun W hW => HRX.out ((HAT7.out.later hbn).later hW) ((HE1.out _ HB8.out).below hW))
       clear hnew hbn)
    | (refine wpList_load_at (by rfl) 29 (.tmp 70) rfl ⟨w3.heap.size, 1, none⟩ rfl cs _ HR8.out.row Tryz.underlying29 rfl HI19.out ?_)
    | (go_at_call 19
       refine HFL.out.mono ?_
       rintro e w9 hl
       obtain ⟨hb9, A9, c9, rfl⟩ := list_alive hl
       have HB9 := hidT HB8 hb9
       clear hl hb9))
  go_ret
  exact ⟨rfl, HB9.out⟩
end Go.Proofs.YtpjjnmdfgcfnmaaGreatDoor
