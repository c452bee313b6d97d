/- The law StatBack: what its calls come to; the law. (printed by gen_e3.py) -/
import Derived.Test.YtaojjjcaofhmcaaDoorSe2
import Derived.Test.YtaojjjcaofhmcaaDoorSn9
import Derived.MakeChecks
set_option linter.unusedVariables false
set_option linter.unusedSimpArgs false
namespace Go.Proofs.YtaojjjcaofhmcaaDoor
open Go.RowKit

theorem acls_small {L : List AclT} (hn : L.length ≤ 16) (hg : L.any aclBig = false) : (aclsB L).length ≤ 8384 := by
  have h : ∀ L : List AclT, L.any aclBig = false → (aclsB L).length ≤ L.length * 524 := by
    intro L
    induction L with
    | nil => intro _; simp [aclsB]
    | cons a r ih =>
      intro h
      rw [List.any_cons, Bool.or_eq_false_iff] at h
      have h1 := ih h.2
      have h2 := h.1
      unfold aclBig at h2
      simp only [Bool.or_eq_false_iff, decide_eq_false_iff_not] at h2
      have e : (aclsB (a :: r)).length = (aclB a).length + (aclsB r).length := by unfold aclsB; rw [List.flatMap_cons, List.length_append]
      rw [e, aclB_len, List.length_cons]
      omega
  have h2 := h L hg
  generalize (aclsB L).length = m at *
  omega
theorem recEnd_ok {l : List UInt8} {x : StR} {w w' : World} {e : Ending} (h : RecEnd l w e w') (hd : decS l = .inr x) : e = .returned (.tuple #[.agg (statCs x), .int .i64 0]) ∧ Below w.heap.size w w' := by
  obtain ⟨h1, h2⟩ := h
  rw [hd] at h2
  exact ⟨h2.1, h1⟩
set_option maxRecDepth 100000 in
theorem node_cells (x : NdR) (h8 : x.xs.length = 8) (h3 : x.ys.length = 3) (d a : Value) : ∃ o cz mz pz az qz ct mt ve cr av, x.xs = [o, cz, mz, pz, az, qz, ct, mt] ∧ x.ys = [ve, cr, av] ∧
    nodeCs d a x = #[.string (bs x.p), d, a, .int .i64 o, .int .i64 cz, .int .i64 mz, .int .i64 pz, .int .i64 az, .int .i64 qz, .int .i64 ct, .int .i64 mt, .int .i32 ve, .int .i32 cr, .int .i32 av, .bool x.h, .int .i64 x.c, .int .i64 x.b] := by
  obtain ⟨o, cz, mz, pz, az, qz, ct, mt, e1⟩ := list8 h8
  obtain ⟨ve, cr, av, e2⟩ := list3 h3
  refine ⟨o, cz, mz, pz, az, qz, ct, mt, ve, cr, av, e1, e2, ?_⟩
  unfold nodeCs bs
  rw [e1, e2]
  simp only [putL, List.setIfInBounds_toArray, List.set_cons_zero, List.set_cons_succ]

theorem decN_inl {l : List UInt8} {E : Int} (h : decN l = .inl E) : E ≠ 0 := by
  unfold decN at h
  split at h
  · rename_i hg
    injection h with h
    subst h
    exact sure_node _ _ _ _ hg
  · split at h
    · injection h with h
      subst h
      decide
    · split at h
      · cases h
      · rename_i hr
        injection h with h
        subst h
        exact hr
theorem decN_fit {l : List UInt8} {x : NdR} (hl : l.length ≤ 4611686018427387904) (h : decN l = .inr x) : (∀ a ∈ x.L, aclFit a) ∧ x.l.length ≤ l.length ∧ x.L.length ≤ 2147483647 := by
  unfold decN at h
  split at h
  · cases h
  · rename_i y q hg
    split at h
    · cases h
    · split at h
      · injection h with h
        subst h
        exact ⟨gNode_fit hl hg, gNode_small hg⟩
      · cases h

/-- the record of a node that may be, read back -/
theorem decode_back (p : ByteArray) (o cz mz pz az qz ct mt ve cr av : Int) (qh : Bool) (qc qb : Int) (X Y : Value) (l : List UInt8) (L : List AclT) (hr : rightE p l.length L qh qc qb = 0)
    (hz : ∀ a ∈ L, wrap32 a.1 = a.1) (h8 : ∀ z ∈ [o, cz, mz, pz, az, qz, ct, mt], wrap64 z = z) (h3 : ∀ z ∈ [ve, cr, av], wrap32 z = z) (hc : wrap64 qc = qc) (hb : wrap64 qb = qb)
    (A : Option Addr) (n c : Nat) (W : World) (hg : Got W A n c (nodeB p l L [o, cz, mz, pz, az, qz, ct, mt] [ve, cr, av] qh qc qb)) (hE : EnvS W) :
    Calls Tryd.prog 23 #[.slice A n c] W fun e w' => ∃ D k B m, e = .returned (.tuple #[.agg (reNode #[.string p, X, Y, .int .i64 o, .int .i64 cz, .int .i64 mz, .int .i64 pz, .int .i64 az, .int .i64 qz, .int .i64 ct, .int .i64 mt, .int .i32 ve, .int .i32 cr, .int .i32 av, .bool qh, .int .i64 qc, .int .i64 qb] (.slice D l.length k) (.slice B L.length m)), .int .i64 0]) ∧ w'.ownsRow W.heap.size 5 1 (.slice D l.length k) l.length (bcells l) ∧ w'.ownsRow W.heap.size 57 3 (.slice B L.length m) L.length (aclCells L) ∧ Below W.heap.size W w' := by
  obtain ⟨g1, g2, g3, g4, g5⟩ := rightE_parts hr
  have hn : n = (nodeB p l L [o, cz, mz, pz, az, qz, ct, mt] [ve, cr, av] qh qc qb).length := by have := hg.1.1; rw [bcells_length] at this; omega
  have hns : n ≤ 140737488355328 := by
    rw [hn, nodeB_len]
    have := acls_small g3 g4
    have := (ok_validD g1).2
    omega
  refine (decode_any c n A _ W hg.1 hg.2.1 hns hg.2.2 hE).mono ?_
  intro e w' h
  obtain ⟨hbl, h⟩ := h
  rw [node_back p l L [o, cz, mz, pz, az, qz, ct, mt] [ve, cr, av] qh qc qb rfl rfl hr hz h8 h3 hc hb] at h
  obtain ⟨dA, dc, aA, ac, rfl, _, _, ho1, ho2⟩ := h
  refine ⟨dA, dc, aA, ac, ?_, ho1, ho2, hbl⟩
  obtain ⟨_, _, _, _, _, _, _, _, _, _, _, e1, e2, e3⟩ := node_cells ⟨p.data.toList, l, L, [o, cz, mz, pz, az, qz, ct, mt], [ve, cr, av], qh, qc, qb⟩ rfl rfl (.slice dA l.length dc) (.slice aA L.length ac)
  rw [e3, bs_of]
  simp only [List.cons.injEq, and_true] at e1 e2
  obtain ⟨rfl, rfl, rfl, rfl, rfl, rfl, rfl, rfl⟩ := e1
  obtain ⟨rfl, rfl, rfl⟩ := e2
  rfl

set_option maxRecDepth 100000 in
set_option maxHeartbeats 4000000 in
theorem back_law (p : ByteArray) (o cz mz pz az qz ct mt ve cr av : Int) (qh : Bool) (qc qb : Int) (dA : Option Addr) (dn dc : Nat) (aA : Option Addr) (an ac : Nat) (l : List UInt8) (L : List AclT)
    (bA : Option Addr) (bn bc : Nat) (lb : List UInt8) (a0 a1 a2 a3 a4 a5 a6 a7 a8 a9 a10 : Int) (w : World)
    (hd : Reads w w.heap.size 1 dA dn (bcells l)) (ha : Reads w w.heap.size 3 aA an (aclCells L)) (hl : l.length = dn) (hL : L.length = an) (hd1 : dn ≤ 140737488355328) (hn : an ≤ 140737488355328) (hfit : ∀ a ∈ L, aclFit a)
    (hz : ∀ a ∈ L, wrap32 a.1 = a.1) (h8 : ∀ z ∈ [o, cz, mz, pz, az, qz, ct, mt], wrap64 z = z) (h3 : ∀ z ∈ [ve, cr, av], wrap32 z = z) (hc : wrap64 qc = qc) (hb : wrap64 qb = qb)
    (hrb : Reads w w.heap.size 1 bA bn (bcells lb)) (hbc : bn ≤ bc) (hbn : bn ≤ 140737488355328) (hbnil : bA = none → bc = 0)
    (s8 : ∀ z ∈ [a0, a1, a2, a3], wrap64 z = z) (s3 : ∀ z ∈ [a4, a5, a6], wrap32 z = z) (g7 : wrap64 a7 = a7) (g8 : wrap32 a8 = a8) (g9 : wrap32 a9 = a9) (g10 : wrap64 a10 = a10) (hE : EnvS w) :
    Calls Tryd.prog 8 #[.agg #[.string p, .slice dA dn dc, .slice aA an ac, .int .i64 o, .int .i64 cz, .int .i64 mz, .int .i64 pz, .int .i64 az, .int .i64 qz, .int .i64 ct, .int .i64 mt, .int .i32 ve, .int .i32 cr, .int .i32 av, .bool qh, .int .i64 qc, .int .i64 qb], .slice bA bn bc, .agg #[.int .i64 a0, .int .i64 a1, .int .i64 a2, .int .i64 a3, .int .i32 a4, .int .i32 a5, .int .i32 a6, .int .i64 a7, .int .i32 a8, .int .i32 a9, .int .i64 a10]] w fun e w' => e = .returned (.bool true) ∧ Below w.heap.size w w' := by
  have hlb : lb.length = bn := by have := hrb.1; rw [bcells_length] at this; omega
  subst hl hL
  obtain ⟨nc, hnc⟩ : ∃ c : Array Value, c = #[.string p, .slice dA l.length dc, .slice aA L.length ac, .int .i64 o, .int .i64 cz, .int .i64 mz, .int .i64 pz, .int .i64 az, .int .i64 qz, .int .i64 ct, .int .i64 mt, .int .i32 ve, .int .i32 cr, .int .i32 av, .bool qh, .int .i64 qc, .int .i64 qb] := ⟨_, rfl⟩
  obtain ⟨sc, hsc⟩ : ∃ c : Array Value, c = #[.int .i64 a0, .int .i64 a1, .int .i64 a2, .int .i64 a3, .int .i32 a4, .int .i32 a5, .int .i32 a6, .int .i64 a7, .int .i32 a8, .int .i32 a9, .int .i64 a10] := ⟨_, rfl⟩
  have ZN : Hid ((Tryd.prog.info? 32).map (·.size) = some nc.size) := by unfold Hid; rw [hnc, node_size]; rfl
  have ZK : Hid (∀ X Y, (Tryd.prog.info? 32).map (·.size) = some (reNode nc X Y).size) := fun X Y => by rw [hnc, node_size]; simp [reNode]
  have ZS : Hid ((Tryd.prog.info? 23).map (·.size) = some sc.size) := by unfold Hid; rw [hsc, stat_sizeR]; rfl
  have N17 : Hid (∀ X Y, (reNode nc X Y).size = 17) := fun X Y => by rw [hnc]; simp [reNode]
  have S11 : Hid (sc.size = 11) := by unfold Hid; rw [hsc]; rfl
  have ONN : Hid (∀ D k A m, (reNode nc (.slice D l.length k) (.slice A L.length m)).all (·.oneCell') = true) := fun D k A m => re_one (by rw [hnc]; simp [Value.oneCell']) _ _ _ _ _ _
  have ONS : Hid (sc.all (·.oneCell') = true) := by unfold Hid; rw [hsc]; simp [Value.oneCell']
  have SE : Hid (∀ W, (binOp .eql 23 (.agg sc) (.agg sc)).run Tryd.prog W = .ok (.bool true) W) := fun W => by rw [hsc]; exact stat_eqv _ _ _ _ _ _ _ _ _ _ _ W
  have AL : Hid (∀ W, Below w.heap.size w W → Calls Tryd.prog 27 #[] W fun e w' => e = .returned (.bool true) ∧ Below W.heap.size W w') := fun W h => alive_any W (hE.below h)
  have RI : ∀ W, Below w.heap.size w W → Calls Tryd.prog 18 #[.agg nc] W fun e w' => e = .returned (.int .i64 (rightE p l.length L qh qc qb)) ∧ Below W.heap.size W w' := fun W h => by
    rw [hnc]; exact right_any p o cz mz pz az qz ct mt ve cr av qh qc qb dA _ dc aA _ ac L w.heap.size W h.size (by omega) (by omega) (ha.below h) hfit (hE.below h)
  have EN0 := fun W (h : Below w.heap.size w W) => encode_any p o cz mz pz az qz ct mt ve cr av qh qc qb dA _ dc aA _ ac l L w.heap.size W h.size (hd.below h) (ha.below h) (by omega) (by omega) hfit (hE.below h)
  have RC : Hid (∀ W, Calls Tryd.prog 10 #[.agg sc] W fun e w' => ∃ A c, e = .returned (.slice A 68 c) ∧ Got w' A 68 c (recB a0 a1 a2 a3 a4 a5 a6 a7 a8 a9 a10) ∧ Below W.heap.size W w') := fun W => by
    rw [hsc]
    refine (record_any a0 a1 a2 a3 a4 a5 a6 a7 a8 a9 a10 W).mono ?_
    rintro e w' ⟨A, c, rfl, ho, hb⟩
    exact ⟨A, c, rfl, Got.of_own ho, hb⟩
  have RR : Hid (∀ W A c, Below w.heap.size w W → Got W A 68 c (recB a0 a1 a2 a3 a4 a5 a6 a7 a8 a9 a10) → Calls Tryd.prog 25 #[.slice A 68 c] W fun e w' => e = .returned (.tuple #[.agg sc, .int .i64 0]) ∧ Below W.heap.size W w') := fun W A c h hg => by
    refine (readRecord_any c 68 A _ W hg.1 hg.2.1 (by omega) hg.2.2 (hE.below h).u8).mono ?_
    intro e w' hr
    obtain ⟨rfl, hb⟩ := recEnd_ok hr (stat_back a0 a1 a2 a3 a4 a5 a6 a7 a8 a9 a10 s8 s3 g7 g8 g9 g10)
    refine ⟨?_, hb⟩
    rw [hsc]
    simp only [statCs, putL, List.setIfInBounds_toArray, List.set_cons_zero, List.set_cons_succ]
  have RB := Lib.hid hrb
  have DB0 := fun W (h : Below w.heap.size w W) => decode_any bc bn bA lb W ((hrb.below h).more h.size) hbc hbn hbnil (hE.below h)

  have ZM0 : Hid ((Tryd.prog.info? 32).map (·.size) = some (#[.string ⟨#[]⟩, .slice none 0 0, .slice none 0 0, .int .i64 0, .int .i64 0, .int .i64 0, .int .i64 0, .int .i64 0, .int .i64 0, .int .i64 0, .int .i64 0, .int .i32 0, .int .i32 0, .int .i32 0, .bool false, .int .i64 0, .int .i64 0] : Array Value).size) := by unfold Hid; rw [node_size]; rfl
  have M0 : Hid ((#[.string ⟨#[]⟩, .slice none 0 0, .slice none 0 0, .int .i64 0, .int .i64 0, .int .i64 0, .int .i64 0, .int .i64 0, .int .i64 0, .int .i64 0, .int .i64 0, .int .i32 0, .int .i32 0, .int .i32 0, .bool false, .int .i64 0, .int .i64 0] : Array Value).size = 17) := rfl
  have ON0 : Hid ((#[.string ⟨#[]⟩, .slice none 0 0, .slice none 0 0, .int .i64 0, .int .i64 0, .int .i64 0, .int .i64 0, .int .i64 0, .int .i64 0, .int .i64 0, .int .i64 0, .int .i32 0, .int .i32 0, .int .i32 0, .bool false, .int .i64 0, .int .i64 0] : Array Value).all (·.oneCell') = true) := by unfold Hid; simp [Value.oneCell']
  have DBE : ∀ E2, decN lb = .inl E2 → Hid (∀ W, Below w.heap.size w W → Calls Tryd.prog 23 #[.slice bA bn bc] W fun e w' => e = .returned (.tuple #[.agg #[.string ⟨#[]⟩, .slice none 0 0, .slice none 0 0, .int .i64 0, .int .i64 0, .int .i64 0, .int .i64 0, .int .i64 0, .int .i64 0, .int .i64 0, .int .i64 0, .int .i32 0, .int .i32 0, .int .i32 0, .bool false, .int .i64 0, .int .i64 0], .int .i64 E2]) ∧ Below W.heap.size W w') := fun E2 h W hW => by
    refine (DB0 W hW).mono ?_
    intro e w' ⟨hb, hm⟩
    rw [h] at hm
    exact ⟨hm.2, hb⟩
  have DBO : ∀ x, decN lb = .inr x → Hid (∀ W, Below w.heap.size w W → Calls Tryd.prog 23 #[.slice bA bn bc] W fun e w' => ∃ mc, (Tryd.prog.info? 32).map (·.size) = some mc.size ∧ mc.size = 17 ∧ mc.all (·.oneCell') = true ∧ e = .returned (.tuple #[.agg mc, .int .i64 0]) ∧ (∀ W', Below w'.heap.size w' W' → Calls Tryd.prog 15 #[.agg mc] W' fun e w'' => ∃ A n c, e = .returned (.tuple #[.slice A n c, .int .i64 0]) ∧ Got w'' A n c lb ∧ Below W'.heap.size W' w'') ∧ Below W.heap.size W w') := fun x h W hW => by
    obtain ⟨e1, e2, e3, e4⟩ := decN_inr h
    have hx := decN_fit (l := lb) (by omega) h
    refine (DB0 W hW).mono ?_
    intro e w' ⟨hb, hm⟩
    rw [h] at hm
    obtain ⟨dA', dc', aA', ac', rfl, _, _, ho1, ho2⟩ := hm
    obtain ⟨o', cz', mz', pz', az', qz', ct', mt', ve', cr', av', f1, f2, f3⟩ := node_cells x e3 e4 (.slice dA' x.l.length dc') (.slice aA' x.L.length ac')
    rw [f3]
    refine ⟨_, by rw [node_size]; rfl, rfl, by simp [Value.oneCell'], rfl, fun W' hW' => ?_, hb⟩
    refine (encode_any (bs x.p) o' cz' mz' pz' az' qz' ct' mt' ve' cr' av' x.h x.c x.b dA' _ dc' aA' _ ac' x.l x.L w'.heap.size W' hW'.size ((Reads.of_own ho1).below hW') ((Reads.of_own ho2).below hW') (by omega) (by omega) hx.1 (((hE.below hW).below hb).below hW')).mono ?_
    rintro e w'' ⟨hb2, ⟨h5, _⟩ | ⟨_, A, n, c, rfl, ho⟩⟩
    · exact absurd e2 h5
    · refine ⟨A, n, c, rfl, ?_, hb2⟩
      rw [f1, f2] at e1
      rw [e1] at ho
      exact Got.of_own ho
  have ENG : rightE p l.length L qh qc qb = 0 → Hid (∀ W, Below w.heap.size w W → Calls Tryd.prog 15 #[.agg nc] W fun e w' => ∃ A n c, e = .returned (.tuple #[.slice A n c, .int .i64 0]) ∧ Got w' A n c (nodeB p l L [o, cz, mz, pz, az, qz, ct, mt] [ve, cr, av] qh qc qb) ∧ Below W.heap.size W w') := fun h W hW => by
    rw [hnc]
    refine (EN0 W hW).mono ?_
    rintro e w' ⟨hb2, ⟨h5, _⟩ | ⟨_, A, n, c, rfl, ho⟩⟩
    · exact absurd h h5
    · exact ⟨A, n, c, rfl, Got.of_own ho, hb2⟩
  have ENB : rightE p l.length L qh qc qb ≠ 0 → Hid (∀ W, Below w.heap.size w W → Calls Tryd.prog 15 #[.agg nc] W fun e w' => e = .returned (.tuple #[.slice none 0 0, .int .i64 (rightE p l.length L qh qc qb)]) ∧ Below W.heap.size W w') := fun h W hW => by
    rw [hnc]
    refine (EN0 W hW).mono ?_
    rintro e w' ⟨hb2, ⟨_, rfl⟩ | ⟨h5, _⟩⟩
    · exact ⟨rfl, hb2⟩
    · exact absurd h5 h
  have DE : rightE p l.length L qh qc qb = 0 → Hid (∀ W A n c, Below w.heap.size w W → Got W A n c (nodeB p l L [o, cz, mz, pz, az, qz, ct, mt] [ve, cr, av] qh qc qb) → Calls Tryd.prog 23 #[.slice A n c] W fun e w' => ∃ D k B m, e = .returned (.tuple #[.agg (reNode nc (.slice D l.length k) (.slice B L.length m)), .int .i64 0]) ∧ Reads w' w'.heap.size 1 D l.length (bcells l) ∧ Reads w' w'.heap.size 3 B L.length (aclCells L) ∧ Below W.heap.size W w') := fun h W A n c hW hg => by
    rw [hnc]
    refine (decode_back p o cz mz pz az qz ct mt ve cr av qh qc qb (.slice dA l.length dc) (.slice aA L.length ac) l L h hz h8 h3 hc hb A n c W hg (hE.below hW)).mono ?_
    rintro e w' ⟨D, k, B, m, rfl, h1, h2, h3⟩
    exact ⟨D, k, B, m, rfl, Reads.of_own h1, Reads.of_own h2, h3⟩
  have SR : Hid (∀ W D k B m, Below w.heap.size w W → Reads W W.heap.size 1 D l.length (bcells l) → Reads W W.heap.size 3 B L.length (aclCells L) → Calls Tryd.prog 21 #[.agg nc, .agg (reNode nc (.slice D l.length k) (.slice B L.length m))] W fun e w' => e = .returned (.bool true) ∧ Below W.heap.size W w') := fun W D k B m hW h1 h2 => by
    rw [hnc]
    refine (refSame_any p o cz mz pz az qz ct mt ve cr av qh qc qb dA _ dc aA _ ac l L w.heap.size p o cz mz pz az qz ct mt ve cr av qh qc qb D _ k B _ m l L W.heap.size W hW.size (hd.below hW) (ha.below hW) (by omega) (Nat.le_refl _) h1 h2 (by omega)).mono fun e w' h => ⟨by rw [h.1, decide_eq_true rfl], h.2⟩
  have SM : Hid (∀ W D k B m, Below w.heap.size w W → Reads W W.heap.size 1 D l.length (bcells l) → Reads W W.heap.size 3 B L.length (aclCells L) → Calls Tryd.prog 20 #[.agg nc, .agg (reNode nc (.slice D l.length k) (.slice B L.length m))] W fun e w' => e = .returned (.bool true) ∧ Below W.heap.size W w') := fun W D k B m hW h1 h2 => by
    rw [hnc]
    refine (same_any p o cz mz pz az qz ct mt ve cr av qh qc qb dA _ dc aA _ ac l L w.heap.size p o cz mz pz az qz ct mt ve cr av qh qc qb D _ k B _ m l L W.heap.size W hW.size (hd.below hW) (ha.below hW) (by omega) (Nat.le_refl _) h1 h2 (by omega)).mono fun e w' h => ⟨by rw [h.1, decide_eq_true rfl], h.2⟩
  rw [← hnc, ← hsc]
  by_cases hr : rightE p l.length L qh qc qb = 0
  · have RI0 : Hid (∀ W, Below w.heap.size w W → Calls Tryd.prog 18 #[.agg nc] W fun e w' => e = .returned (.int .i64 0) ∧ Below W.heap.size W w') := fun W h => by
      have := RI W h
      rwa [hr] at this
    rcases hdn : decN lb with E2 | x
    · exact back_walk10 nc _ sc bA bn bc _ lb _ 0 E2 w (decN_inl hdn) l.length L.length (bcells l) (aclCells L) ZN ZK ZM0 ZS N17 M0 S11 ONN ON0 ONS SE RB AL (ENG hr) RI0 (DE hr) SR SM (DBE E2 hdn) RC RR
    · exact back_walk11 nc sc bA bn bc _ lb _ 0 0 w l.length L.length (bcells l) (aclCells L) ZN ZK ZS N17 S11 ONN ONS SE RB AL (ENG hr) RI0 (DE hr) SR SM (DBO x hdn) RC RR
  · rcases hdn : decN lb with E2 | x
    · exact back_walk00 nc _ sc bA bn bc [] lb _ _ E2 w (decN_inl hdn) l.length L.length (bcells l) (aclCells L) hr ZN ZK ZM0 ZS N17 M0 S11 ONN ON0 ONS SE RB AL (ENB hr) (Lib.hid RI) (DBE E2 hdn) RC RR
    · exact back_walk01 nc sc bA bn bc [] lb _ _ 0 w l.length L.length (bcells l) (aclCells L) hr ZN ZK ZS N17 S11 ONN ONS SE RB AL (ENB hr) (Lib.hid RI) (DBO x hdn) RC RR
end Go.Proofs.YtaojjjcaofhmcaaDoor
