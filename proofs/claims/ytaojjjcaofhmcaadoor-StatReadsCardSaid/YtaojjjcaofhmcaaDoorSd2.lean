/- A node read: the program's Decode: the walk. -/
import Derived.Test.YtaojjjcaofhmcaaDoorSd
import Derived.Test.YtaojjjcaofhmcaaDoorSn2
set_option linter.unusedVariables false
set_option linter.unusedSimpArgs false
namespace Go.Proofs.YtaojjjcaofhmcaaDoor
open Go.RowKit

/-- a reading's errors are none of them 0 -/
def Sure {α : Type} (g : Rg α) : Prop := ∀ l p e q, g l p = .inr (e, q) → e ≠ 0
theorem Sure.bind {α β : Type} {f : Rg α} {g : α → Rg β} (hf : Sure f) (hg : ∀ x, Sure (g x)) : Sure (f.bind g) := fun l p e q h => by
  unfold Rg.bind at h
  rcases hr : f l p with ⟨x, q1⟩ | ⟨e1, q1⟩
  · rw [hr] at h; exact hg x _ _ _ _ h
  · rw [hr] at h; injection h with h; injection h with h1 h2; subst h1; exact hf _ _ _ _ hr
theorem Sure.map {α β : Type} {f : α → β} {g : Rg α} (hg : Sure g) : Sure (g.map f) := fun l p e q h => by
  unfold Rg.map at h
  rcases hr : g l p with ⟨x, q1⟩ | ⟨e1, q1⟩
  · rw [hr] at h; cases h
  · rw [hr] at h; injection h with h; injection h with h1 h2; subst h1; exact hg _ _ _ _ hr
theorem sure_next (k : Nat) : Sure (gNext k) := fun l p e q h => by
  unfold gNext at h
  split at h
  · cases h
  · injection h with h; injection h with h1 _; subst h1; decide
theorem sure_num (k : Nat) : Sure (gNum k) := (sure_next k).map
theorem sure_int : Sure gInt := (sure_num 4).map
theorem sure_long : Sure gLong := (sure_num 8).map
theorem sure_bool : Sure gBool := fun l p e q h => by
  unfold gBool at h
  rcases hr : gNum 1 l p with ⟨x, q1⟩ | ⟨e1, q1⟩
  · rw [hr] at h
    dsimp only at h
    split at h
    · injection h with h; injection h with h1 _; subst h1; decide
    · cases h
  · rw [hr] at h; injection h with h; injection h with h1 _; subst h1; exact sure_num 1 _ _ _ _ hr
theorem sure_size (m : Int) : Sure (gSize m) := fun l p e q h => by
  unfold gSize at h
  rcases hr : gInt l p with ⟨x, q1⟩ | ⟨e1, q1⟩
  · rw [hr] at h
    dsimp only at h
    split at h
    · injection h with h; injection h with h1 _; subst h1; decide
    · cases h
  · rw [hr] at h; injection h with h; injection h with h1 _; subst h1; exact sure_int _ _ _ _ hr
theorem sure_buf (m : Int) : Sure (gBuf m) := fun l p e q h => by
  unfold gBuf at h
  rcases hr : gSize m l p with ⟨x, q1⟩ | ⟨e1, q1⟩
  · rw [hr] at h
    dsimp only at h
    split at h
    · cases h
    · injection h with h; injection h with h1 _; subst h1; decide
  · rw [hr] at h; injection h with h; injection h with h1 _; subst h1; exact sure_size m _ _ _ _ hr
theorem sure_text (m : Int) : Sure (gText m) := fun l p e q h => by
  unfold gText at h
  rcases hr : gBuf m l p with ⟨x, q1⟩ | ⟨e1, q1⟩
  · rw [hr] at h
    dsimp only at h
    split at h
    · cases h
    · injection h with h; injection h with h1 _; subst h1; decide
  · rw [hr] at h; injection h with h; injection h with h1 _; subst h1; exact sure_buf m _ _ _ _ hr
theorem sure_count (m k : Int) : Sure (gCount m k) := fun l p e q h => by
  unfold gCount at h
  rcases hr : gSize m l p with ⟨x, q1⟩ | ⟨e1, q1⟩
  · rw [hr] at h
    dsimp only at h
    split at h
    · injection h with h; injection h with h1 _; subst h1; decide
    · cases h
  · rw [hr] at h; injection h with h; injection h with h1 _; subst h1; exact sure_size m _ _ _ _ hr
theorem Sure.many {α : Type} {g : Rg α} (hg : Sure g) (n : Nat) : Sure (gMany g n) := by
  induction n with
  | zero => intro l p e q h; cases h
  | succ n ih => exact Sure.bind hg fun x => Sure.map ih
theorem Sure.get {α : Type} {g : Rg α} (hg : Sure g) (m k : Int) : Sure (gGet m k g) := Sure.bind (sure_count m k) fun n => hg.many n
theorem sure_acl : Sure gAcl := sure_int.bind fun _ => (sure_text _).bind fun _ => (sure_text _).map
theorem sure_node : Sure gNode := (sure_text _).bind fun _ => (sure_buf _).bind fun _ => (sure_acl.get _ _).bind fun _ => (sure_long.many _).bind fun _ => (sure_int.many _).bind fun _ => sure_bool.bind fun _ => sure_long.bind fun _ => sure_long.map

/-- what a reading hands back is no longer than the bytes -/
theorem gText_buf {m : Int} {l x : List UInt8} {p q : Nat} (h : gText m l p = .inl (x, q)) : gBuf m l p = .inl (x, q) := by
  unfold gText at h
  rcases hr : gBuf m l p with ⟨y, q1⟩ | ⟨e1, q1⟩
  · rw [hr] at h
    dsimp only at h
    split at h
    · exact h
    · cases h
  · rw [hr] at h; cases h
theorem gText_fit {m : Int} {l x : List UInt8} {p q : Nat} (h : gText m l p = .inl (x, q)) : x.length ≤ l.length := by have := gBuf_inl (gText_buf h); omega
theorem gMany_all {α : Type} {g : Rg α} {l : List UInt8} {P : α → Prop} (hg : ∀ p x q, g l p = .inl (x, q) → P x) : ∀ (n p : Nat) (xs : List α) (q : Nat), gMany g n l p = .inl (xs, q) → ∀ x ∈ xs, P x := by
  intro n
  induction n with
  | zero => intro p xs q h x hx; injection h with h; injection h with h _; subst h; cases hx
  | succ n ih =>
    intro p xs q h x hx
    rw [gMany_succ] at h
    rcases hr : g l p with ⟨y, q1⟩ | ⟨e1, q1⟩
    · rw [hr] at h
      dsimp only at h
      rcases hr2 : gMany g n l q1 with ⟨ys, q2⟩ | ⟨e2, q2⟩
      · rw [hr2] at h
        injection h with h
        injection h with h1 _
        subst h1
        rcases List.mem_cons.1 hx with rfl | hx
        · exact hg _ _ _ hr
        · exact ih _ _ _ hr2 x hx
      · rw [hr2] at h; cases h
    · rw [hr] at h; cases h
theorem bind_inl {α β : Type} {f : Rg α} {g : α → Rg β} {l : List UInt8} {p q : Nat} {y : β} (h : f.bind g l p = .inl (y, q)) : ∃ x q1, f l p = .inl (x, q1) ∧ g x l q1 = .inl (y, q) := by
  unfold Rg.bind at h
  rcases hr : f l p with ⟨x, q1⟩ | ⟨e1, q1⟩
  · rw [hr] at h; exact ⟨x, q1, rfl, h⟩
  · rw [hr] at h; cases h
theorem map_inl {α β : Type} {f : α → β} {g : Rg α} {l : List UInt8} {p q : Nat} {y : β} (h : g.map f l p = .inl (y, q)) : ∃ x, g l p = .inl (x, q) ∧ f x = y := by
  unfold Rg.map at h
  rcases hr : g l p with ⟨x, q1⟩ | ⟨e1, q1⟩
  · rw [hr] at h; injection h with h; injection h with h1 h2; subst h1 h2; exact ⟨x, rfl, rfl⟩
  · rw [hr] at h; cases h
theorem bs_size (x : List UInt8) : (bs x).size = x.length := by simp [bs, ByteArray.size]
theorem gAcl_fit {l : List UInt8} (hl : l.length ≤ 4611686018427387904) (p : Nat) (a : AclT) (q : Nat) (h : gAcl l p = .inl (a, q)) : aclFit a := by
  obtain ⟨z, q1, _, h⟩ := bind_inl h
  obtain ⟨s, q2, h2, h⟩ := bind_inl h
  obtain ⟨i, h3, rfl⟩ := map_inl h
  have := gText_fit h2
  have := gText_fit h3
  exact ⟨by show (bs s).size ≤ _; rw [bs_size]; omega, by show (bs i).size ≤ _; rw [bs_size]; omega⟩
theorem gNode_fit {l : List UInt8} {p q : Nat} {x : NdR} (hl : l.length ≤ 4611686018427387904) (h : gNode l p = .inl (x, q)) : ∀ a ∈ x.L, aclFit a := by
  obtain ⟨s, q1, _, h⟩ := bind_inl h
  obtain ⟨d, q2, _, h⟩ := bind_inl h
  obtain ⟨L, q3, h3, h⟩ := bind_inl h
  obtain ⟨xs, q4, _, h⟩ := bind_inl h
  obtain ⟨ys, q5, _, h⟩ := bind_inl h
  obtain ⟨b, q6, _, h⟩ := bind_inl h
  obtain ⟨c, q7, _, h⟩ := bind_inl h
  obtain ⟨e, _, rfl⟩ := map_inl h
  obtain ⟨n, q8, _, h4⟩ := bind_inl h3
  exact gMany_all (gAcl_fit hl) n q8 L q3 h4

theorem gMany_len {α : Type} {g : Rg α} {l : List UInt8} : ∀ (n p : Nat) (xs : List α) (q : Nat), gMany g n l p = .inl (xs, q) → xs.length = n := by
  intro n
  induction n with
  | zero => intro p xs q h; injection h with h; injection h with h _; subst h; rfl
  | succ n ih =>
    intro p xs q h
    rw [gMany_succ] at h
    rcases hr : g l p with ⟨y, q1⟩ | ⟨e1, q1⟩
    · rw [hr] at h
      dsimp only at h
      rcases hr2 : gMany g n l q1 with ⟨ys, q2⟩ | ⟨e2, q2⟩
      · rw [hr2] at h
        injection h with h
        injection h with h1 _
        subst h1
        rw [List.length_cons, ih _ _ _ hr2]
      · rw [hr2] at h; cases h
    · rw [hr] at h; cases h
theorem gNode_small {l : List UInt8} {p q : Nat} {x : NdR} (h : gNode l p = .inl (x, q)) : x.l.length ≤ l.length ∧ x.L.length ≤ 2147483647 := by
  obtain ⟨s, q1, _, h⟩ := bind_inl h
  obtain ⟨d, q2, hd2, h⟩ := bind_inl h
  obtain ⟨L, q3, h3, h⟩ := bind_inl h
  obtain ⟨xs, q4, _, h⟩ := bind_inl h
  obtain ⟨ys, q5, _, h⟩ := bind_inl h
  obtain ⟨b, q6, _, h⟩ := bind_inl h
  obtain ⟨c, q7, _, h⟩ := bind_inl h
  obtain ⟨e, _, rfl⟩ := map_inl h
  obtain ⟨n, q8, hc, h4⟩ := bind_inl h3
  have h1 := gBuf_inl hd2
  have h2 := gCount_bd hc
  have h3 := gMany_len n q8 L q3 h4
  exact ⟨by show d.length ≤ _; omega, by show L.length ≤ _; omega⟩

/-- the error of a reading of all bytes -/
def allE {α : Type} (l : List UInt8) (r : (α × Nat) ⊕ (Int × Nat)) : Int := match r with | .inl (_, q) => if q < l.length then 21 else 0 | .inr (e, _) => e
def decN (l : List UInt8) : Int ⊕ NdR := match gNode l 0 with
  | .inr (e, _) => .inl e
  | .inl (x, q) => if q < l.length then .inl 21 else if rightE (bs x.p) x.l.length x.L x.h x.c x.b = 0 then .inr x else .inl (rightE (bs x.p) x.l.length x.L x.h x.c x.b)
/-- behind Decode -/
def DecEnd (l : List UInt8) (w : World) (e : Ending) (w' : World) : Prop := Below w.heap.size w w' ∧ match decN l with
  | .inl E => E ≠ 0 ∧ e = .returned (.tuple #[.agg #[.string ⟨#[]⟩, .slice none 0 0, .slice none 0 0, .int .i64 0, .int .i64 0, .int .i64 0, .int .i64 0, .int .i64 0, .int .i64 0, .int .i64 0, .int .i64 0, .int .i32 0, .int .i32 0, .int .i32 0, .bool false, .int .i64 0, .int .i64 0], .int .i64 E])
  | .inr x => ∃ dA dc aA ac, e = .returned (.tuple #[.agg (nodeCs (.slice dA x.l.length dc) (.slice aA x.L.length ac) x), .int .i64 0]) ∧ x.xs.length = 8 ∧ x.ys.length = 3 ∧
    w'.ownsRow w.heap.size 5 1 (.slice dA x.l.length dc) x.l.length (bcells x.l) ∧ w'.ownsRow w.heap.size 57 3 (.slice aA x.L.length ac) x.L.length (aclCells x.L)
theorem DecEnd.no {l : List UInt8} {w w' : World} {E : Int} (hd : decN l = .inl E) (hE : E ≠ 0) (hb : Below w.heap.size w w') : DecEnd l w (.returned (.tuple #[.agg #[.string ⟨#[]⟩, .slice none 0 0, .slice none 0 0, .int .i64 0, .int .i64 0, .int .i64 0, .int .i64 0, .int .i64 0, .int .i64 0, .int .i64 0, .int .i64 0, .int .i32 0, .int .i32 0, .int .i32 0, .bool false, .int .i64 0, .int .i64 0], .int .i64 E])) w' := by
  refine ⟨hb, ?_⟩
  rw [hd]
  exact ⟨hE, rfl⟩

def rOf {α : Type} : (α × Nat) ⊕ (Int × Nat) → Nat ⊕ (Int × Nat)
  | .inl (_, q) => .inl q
  | .inr e => .inr e
theorem rAllE_of {α : Type} {g : Rg α} (hg : Sure g) (l : List UInt8) (p : Nat) : rAllE l (rOf (g l p)) = allE l (g l p) := by
  rcases hr : g l p with ⟨x, q⟩ | ⟨e, q⟩
  · unfold rAllE allE rOf rE rAt
    by_cases h : q < l.length <;> simp [h]
  · have h := hg _ _ _ _ hr
    unfold rAllE allE rOf rE rAt
    simp [h]
theorem NodeAt.kp {w w' : World} {X : List Nat} {base nb : Nat} {x : NdR} (h : NodeAt w base nb x) (hk : Kp X w w') (hn : nb ∉ X) (hX : ∀ y ∈ X, y < base) : NodeAt w' base nb x := by
  obtain ⟨dA, dc, aA, ac, h1, h2, h3, h4, h5⟩ := h
  exact ⟨dA, dc, aA, ac, h1.kp hk hn, h2, h3, own_far h4 hk hX, own_far h5 hk hX⟩
theorem NodeAt.low {w : World} {base base' nb : Nat} {x : NdR} (h : NodeAt w base nb x) (hb : base' ≤ base) : NodeAt w base' nb x := by
  obtain ⟨dA, dc, aA, ac, h1, h2, h3, h4, h5⟩ := h
  exact ⟨dA, dc, aA, ac, h1, h2, h3, own_low h4 hb, own_low h5 hb⟩

set_option maxRecDepth 100000 in
theorem decF_enters (args : Array Value) (W : World) : (callFunc 65 args).run Tryd.prog W = .ok (.enter 65 args) W := by
  have hn : (Tryd.f65.name == "runtime.NumGoroutine") = false := by as_aux_lemma => kernel_rfl
  have hb : Tryd.f65.body.isNone = false := by as_aux_lemma => kernel_rfl
  have hn' : ¬ Tryd.f65.name = "runtime.NumGoroutine" := by simpa using hn
  have hb' : ¬ Tryd.f65.body = none := fun h => by rw [h] at hb; cases hb
  simp [callFunc, Tryd.func65, hn', hb']

theorem allNode_any (c n nb b0 : Nat) (A : Option Addr) (l : List UInt8) (w : World) (hr : Reads w b0 1 A n (bcells l)) (hnc : n ≤ c) (hn : n ≤ 140737488355328) (hnil : A = none → c = 0) (hE : Env w)
    (hb0 : b0 ≤ nb) (hg : 0 < b0 ∧ 1 < b0) (hN : Blk w nb 32 #[.string ⟨#[]⟩, .slice none 0 0, .slice none 0 0, .int .i64 0, .int .i64 0, .int .i64 0, .int .i64 0, .int .i64 0, .int .i64 0, .int .i64 0, .int .i64 0, .int .i32 0, .int .i32 0, .int .i32 0, .bool false, .int .i64 0, .int .i64 0]) :
    Calls Tryd.prog 64 #[.slice A n c, .func (.func 65) #[] #[.pointer (some ⟨nb, 0, none⟩)]] w fun e w' => ∃ at_ : Int, e = .returned (.tuple #[.int .i64 at_, .int .i64 (allE l (gNode l 0))]) ∧ Kp [nb] w w' ∧ ∀ x q, gNode l 0 = .inl (x, q) → NodeAt w' w.heap.size nb x := by
  have hnl := hN.lt
  refine (all_any (fun x => x < b0) c n A l 65 #[] #[.pointer (some ⟨nb, 0, none⟩)] [nb] (fun W => ∀ x q, gNode l 0 = .inl (x, q) → NodeAt W (w.heap.size + 4) nb x) (rOf (gNode l 0)) w (hr.more (by omega)) hnc hn hnil (fun x hx => by omega) hE.tab hg
    (fun h ad e => by obtain ⟨ad', e', hb, _⟩ := hr.2 h; rw [e] at e'; cases e'; exact hb) (fun x hx => by simp at hx; omega) decF_enters (fun W hk hz hR => ?_)).mono ?_
  · refine (decodeF_any (fun x => x < b0) (w.heap.size + 1 + 1) c 0 nb A l W ⟨hR, hN.kp hk (by simp), Kp.refl _ _, by omega, by omega, by omega⟩).mono fun e w' h => ?_
    unfold Did
    rcases hres : gNode l 0 with ⟨x, q⟩ | ⟨er, q⟩
    · rw [hres] at h
      obtain ⟨h1, h2, h3, h4⟩ := h
      exact ⟨h1, fun x' q' hx => by cases hx; exact hz ▸ h2, h3, h4⟩
    · rw [hres] at h
      obtain ⟨h1, h3, h4⟩ := h
      exact ⟨h1, (fun x' q' hx => by cases hx), h3, h4⟩
  · rintro e w' ⟨rfl, hk, ⟨W', hP, hk2, _, hz⟩, _⟩
    refine ⟨_, by rw [rAllE_of sure_node], hk, fun x q hx => ?_⟩
    exact ((hP x q hx).kp hk2 (by simp; omega) (by simp)).low (by omega)

theorem results_cell_tmp {P : Program} {fn : Func} {p q : Tmp} {ty : TypeId} (h : fn.results = #[.cell p ty, .tmp q]) (tmps : Array Value) (w : World) (g : Nat) (t : TypeId) (cs : Array Value) (d : TypeDesc) (u : Value)
    (hp : tmps.getD p undef = .pointer (some ⟨g, 0, none⟩)) (hq : tmps.getD q undef = u) (hg : Blk w g t cs) (hu : P.underlying ty = some d) (hd : (match d with | .struct _ | .array _ _ => true | _ => false) = true) (hi : (P.info? ty).map (·.size) = some cs.size) :
    (results fn tmps).run P w = .ok (.tuple #[.agg cs, u]) w := by
  have hp' : tmps[p]?.getD undef = .pointer (some ⟨g, 0, none⟩) := by simpa using hp
  have hq' : tmps[q]?.getD undef = u := by simpa using hq
  simp [results, h, hp', hq', asAddr, run_loadVar_row w g t ty cs (0, 0) d hg hu hd hi]

theorem nodeCs_lit (d a : Value) (p l : List UInt8) (L : List AclT) (x0 x1 x2 x3 x4 x5 x6 x7 y0 y1 y2 : Int) (h : Bool) (c b : Int) : nodeCs d a ⟨p, l, L, [x0, x1, x2, x3, x4, x5, x6, x7], [y0, y1, y2], h, c, b⟩ =
    #[.string (bs p), d, a, .int .i64 x0, .int .i64 x1, .int .i64 x2, .int .i64 x3, .int .i64 x4, .int .i64 x5, .int .i64 x6, .int .i64 x7, .int .i32 y0, .int .i32 y1, .int .i32 y2, .bool h, .int .i64 c, .int .i64 b] := by
  simp only [nodeCs, putL, List.setIfInBounds_toArray, List.set_cons_zero, List.set_cons_succ]
  rfl
theorem nodeCs_size (d a : Value) (x : NdR) : (nodeCs d a x).size = 17 := by
  unfold nodeCs
  rw [Array.size_setIfInBounds, Array.size_setIfInBounds, Array.size_setIfInBounds, putL_size, putL_size]
  rfl
theorem putL_one {k : IntKind} {cs : Array Value} {i : Nat} {xs : List Int} (h : cs.all (·.oneCell') = true) : (putL k cs i xs).all (·.oneCell') = true := by
  induction xs generalizing cs i with
  | nil => exact h
  | cons x r ih => exact ih (by
      rw [Array.all_eq_true] at h ⊢
      intro j hj
      rw [Array.getElem_setIfInBounds]
      split
      · rfl
      · exact h j (by simpa using hj))
theorem set_one {cs : Array Value} {i : Nat} {v : Value} (h : cs.all (·.oneCell') = true) (hv : v.oneCell' = true) : (cs.setIfInBounds i v).all (·.oneCell') = true := by
  rw [Array.all_eq_true] at h ⊢
  intro j hj
  rw [Array.getElem_setIfInBounds]
  split
  · exact hv
  · exact h j (by simpa using hj)
theorem nodeCs_one (dA aA : Option Addr) (dn dc an ac : Nat) (x : NdR) : (nodeCs (.slice dA dn dc) (.slice aA an ac) x).all (·.oneCell') = true := by
  unfold nodeCs
  exact set_one (set_one (set_one (putL_one (putL_one (by simp [Value.oneCell']))) rfl) rfl) rfl

set_option maxRecDepth 100000 in
set_option maxHeartbeats 4000000 in
theorem decode_any (c n : Nat) (A : Option Addr) (l : List UInt8) (w : World) (hr : Reads w w.heap.size 1 A n (bcells l)) (hnc : n ≤ c) (hn : n ≤ 140737488355328) (hnil : A = none → c = 0) (hE : EnvS w) :
    Calls Tryd.prog 23 #[.slice A n c] w fun e w' => DecEnd l w e w' := by
  have hl : l.length = n := by have := hr.1; rw [bcells_length] at this; omega
  obtain ⟨w2, hw2⟩ : ∃ w2, (w.alloc (.cells #[.string ⟨#[]⟩, .slice none 0 0, .slice none 0 0, .int .i64 0, .int .i64 0, .int .i64 0, .int .i64 0, .int .i64 0, .int .i64 0, .int .i64 0, .int .i64 0, .int .i32 0, .int .i32 0, .int .i32 0, .bool false, .int .i64 0, .int .i64 0] 32)).alloc (.cells #[.string ⟨#[]⟩, .slice none 0 0, .slice none 0 0, .int .i64 0, .int .i64 0, .int .i64 0, .int .i64 0, .int .i64 0, .int .i64 0, .int .i64 0, .int .i64 0, .int .i32 0, .int .i32 0, .int .i32 0, .bool false, .int .i64 0, .int .i64 0] 32) = w2 := ⟨_, rfl⟩
  have hz2 : w2.heap.size = w.heap.size + 2 := by rw [← hw2]; simp
  have hb2 : Below w.heap.size w w2 := by rw [← hw2]; exact ((Below.refl _ _).alloc (Nat.le_refl _) _).alloc (by simp) _
  have br : Blk w2 w.heap.size 32 #[.string ⟨#[]⟩, .slice none 0 0, .slice none 0 0, .int .i64 0, .int .i64 0, .int .i64 0, .int .i64 0, .int .i64 0, .int .i64 0, .int .i64 0, .int .i64 0, .int .i32 0, .int .i32 0, .int .i32 0, .bool false, .int .i64 0, .int .i64 0] := by rw [← hw2]; exact (Blk.new _ _ _).alloc _
  have bn : Blk w2 (w.heap.size + 1) 32 #[.string ⟨#[]⟩, .slice none 0 0, .slice none 0 0, .int .i64 0, .int .i64 0, .int .i64 0, .int .i64 0, .int .i64 0, .int .i64 0, .int .i64 0, .int .i64 0, .int .i32 0, .int .i32 0, .int .i32 0, .bool false, .int .i64 0, .int .i64 0] := by rw [← hw2]; exact Blk.new' (by simp)
  have hA := allNode_any c n (w.heap.size + 1) w.heap.size A l w2 (hr.below hb2) hnc hn hnil (hE.below hb2).u8 (by omega) ⟨hE.u8.g1, hE.u8.g2⟩ bn
  have HE := Lib.hid hE
  have HB2 := Lib.hid hb2
  have HR := Lib.hid br
  have hmf : ∀ (fn : Fn) (first cap : Array Value) (w : World), (Instr.makeFunc fn first cap).run Tryd.prog w = .ok (.func fn first cap) w := fun _ _ _ _ => rfl
  clear hE hb2 br bn hr
  by_cases h0 : allE l (gNode l 0) = 0
  rotate_left
  · have hd : decN l = .inl (allE l (gNode l 0)) := by
      unfold decN
      unfold allE at h0 ⊢
      rcases hres : gNode l 0 with ⟨x, q⟩ | ⟨er, q⟩
      · rw [hres] at h0
        dsimp only at h0 ⊢
        by_cases hq : q < l.length
        · rw [if_pos hq, if_pos hq]
        · rw [if_neg hq] at h0; exact absurd rfl h0
      · rfl
    have HD := Lib.hid hd
    obtain ⟨E, hEE⟩ : ∃ E, E = allE l (gNode l 0) := ⟨_, rfl⟩
    rw [← hEE] at hA HD h0
    have HA := Lib.hid hA
    have h1 : (E == 0) = false := by simp [h0]
    have h2 : (E != 0) = true := by simp [h0]
    have HNE := Lib.hid h0
    clear hA hd hEE h0
    go_enter Tryd.func23, Tryd.ntmps23
    go_wp2_with (first
      | (go_at_call 64; refine HA.out.mono ?_; rintro e w3 ⟨at_, rfl, hk, _⟩; have hR3 := HR.out.kp hk (by simp); have hb3 : Below w.heap.size w w3 := HB2.out.trans (hk.below (by simp) (by omega)); have HR3 := Lib.hid hR3; have HB3 := Lib.hid hb3; clear hk hR3 hb3)
      | (refine wpList_store_row rfl 32 (.tmp 2) (.tmp 19) rfl w.heap.size #[.string ⟨#[]⟩, .slice none 0 0, .slice none 0 0, .int .i64 0, .int .i64 0, .int .i64 0, .int .i64 0, .int .i64 0, .int .i64 0, .int .i64 0, .int .i64 0, .int .i32 0, .int .i32 0, .int .i32 0, .bool false, .int .i64 0, .int .i64 0] rfl rfl 32 _ HR3.out (by rw [node_size]; rfl) rfl (by simp [Value.oneCell']) ?_
         generalize hww : World.setRow _ _ _ = w4
         have HB4 : Hid (Below w.heap.size w w4) := by unfold Hid; rw [← hww]; exact below_setRow' HB3.out (Nat.le_refl _) _
         have HR4 : Hid (Blk w4 w.heap.size 32 #[.string ⟨#[]⟩, .slice none 0 0, .slice none 0 0, .int .i64 0, .int .i64 0, .int .i64 0, .int .i64 0, .int .i64 0, .int .i64 0, .int .i64 0, .int .i64 0, .int .i32 0, .int .i32 0, .int .i32 0, .bool false, .int .i64 0, .int .i64 0]) := by unfold Hid; rw [← hww]; exact cells_setRow HR3.out
         clear hww))
    refine bodyPost_ret (results_cell_tmp rfl _ _ w.heap.size 32 #[.string ⟨#[]⟩, .slice none 0 0, .slice none 0 0, .int .i64 0, .int .i64 0, .int .i64 0, .int .i64 0, .int .i64 0, .int .i64 0, .int .i64 0, .int .i64 0, .int .i32 0, .int .i32 0, .int .i32 0, .bool false, .int .i64 0, .int .i64 0] _ (.int .i64 E) rfl rfl HR4.out Tryd.underlying32 rfl (by rw [node_size]; rfl)) rfl ?_
    exact DecEnd.no HD.out HNE.out HB4.out
  · obtain ⟨x, q, hres, hq⟩ : ∃ x q, gNode l 0 = .inl (x, q) ∧ ¬ q < l.length := by
      unfold allE at h0
      rcases hres : gNode l 0 with ⟨x, q⟩ | ⟨er, q⟩
      · rw [hres] at h0
        dsimp only at h0
        by_cases hq : q < l.length
        · rw [if_pos hq] at h0; cases h0
        · exact ⟨x, q, rfl, hq⟩
      · rw [hres] at h0
        exact absurd h0 (sure_node _ _ _ _ hres)
    rw [h0] at hA
    have hA' : Calls Tryd.prog 64 #[.slice A n c, .func (.func 65) #[] #[.pointer (some ⟨w.heap.size + 1, 0, none⟩)]] w2 fun e w' => ∃ at_ : Int, e = .returned (.tuple #[.int .i64 at_, .int .i64 0]) ∧ Kp [w.heap.size + 1] w2 w' ∧ NodeAt w' w2.heap.size (w.heap.size + 1) x :=
      hA.mono fun e w' ⟨at_, h1, h2, h3⟩ => ⟨at_, h1, h2, h3 x q hres⟩
    have HA := Lib.hid hA'
    have hfit := gNode_fit (by omega) hres
    have hd : decN l = if rightE (bs x.p) x.l.length x.L x.h x.c x.b = 0 then .inr x else .inl (rightE (bs x.p) x.l.length x.L x.h x.c x.b) := by
      unfold decN; rw [hres]; dsimp only; rw [if_neg hq]
    obtain ⟨hxl, hLl⟩ := gNode_small hres
    clear hA hA' h0 hres hq
    have hrt : ∀ W, Below w.heap.size w W → ∀ B, B ≤ W.heap.size → ∀ dA dc aA ac, x.xs.length = 8 → x.ys.length = 3 → Reads W B 3 aA x.L.length (aclCells x.L) →
        Calls Tryd.prog 18 #[.agg (nodeCs (.slice dA x.l.length dc) (.slice aA x.L.length ac) x)] W fun e w' => e = .returned (.int .i64 (rightE (bs x.p) x.l.length x.L x.h x.c x.b)) ∧ Below W.heap.size W w' := fun W hW B hB dA dc aA ac hx hy hR => by
      obtain ⟨p, d, L, xs, ys, h, c, b⟩ := x
      dsimp only at hx hy hR hfit hxl hLl ⊢
      obtain ⟨x0, x1, x2, x3, x4, x5, x6, x7, rfl⟩ := list8 hx
      obtain ⟨y0, y1, y2, rfl⟩ := list3 hy
      rw [nodeCs_lit]
      exact right_any (bs p) x0 x1 x2 x3 x4 x5 x6 x7 y0 y1 y2 h c b dA d.length dc aA L.length ac L B W hB (by omega) (by omega) hR hfit (HE.out.below hW)
    have HRT := Lib.hid hrt
    have HD := Lib.hid hd
    obtain ⟨E, hEE⟩ : ∃ E, E = rightE (bs x.p) x.l.length x.L x.h x.c x.b := ⟨_, rfl⟩
    rw [← hEE] at HRT HD
    clear hrt hfit hd hEE hxl
    have hz : ∀ dA dn dc aA an ac, (Tryd.prog.info? 32).map (·.size) = some (nodeCs (.slice dA dn dc) (.slice aA an ac) x).size := fun _ _ _ _ _ _ => by rw [node_size, nodeCs_size]
    have HZ := Lib.hid hz
    have HONE : Hid (∀ dA dn dc aA an ac, (nodeCs (.slice dA dn dc) (.slice aA an ac) x).all (·.oneCell') = true) := fun dA dn dc aA an ac => nodeCs_one dA aA dn dc an ac x
    clear hz hLl
    by_cases h1 : E = 0
    · subst h1
      have HDX : Hid (decN l = .inr x) := by unfold Hid; rw [HD.out, if_pos rfl]
      clear HD
      go_enter Tryd.func23, Tryd.ntmps23
      go_wp2_with (first
        | (go_at_call 64
           refine HA.out.mono ?_
           rintro e w3 ⟨at_, rfl, hk, dA, dc, aA, ac, hb, hx, hy, ho1, ho2⟩
           have hz3 := hk.size
           have hb3 : Below w.heap.size w w3 := HB2.out.trans (hk.below (by simp) (by omega))
           have hrr := HRT.out w3 hb3 w3.heap.size (Nat.le_refl _) dA dc aA ac hx hy (Reads.of_own ho2)
           obtain ⟨cs, hcs⟩ : ∃ cs, cs = nodeCs (.slice dA x.l.length dc) (.slice aA x.L.length ac) x := ⟨_, rfl⟩
           rw [← hcs] at hb hrr
           have HCS := Lib.hid hcs
           have HZC : Hid ((Tryd.prog.info? 32).map (·.size) = some cs.size) := by rw [hcs]; exact HZ.out _ _ _ _ _ _
           have HSC : Hid (cs.size = 17) := by rw [hcs]; exact nodeCs_size _ _ _
           have HOC : Hid (cs.all (·.oneCell') = true) := by rw [hcs]; exact HONE.out _ _ _ _ _ _
           have HBN := Lib.hid hb
           have HR3 := Lib.hid (HR.out.kp hk (by simp))
           have HB3 := Lib.hid hb3
           have HRR := Lib.hid hrr
           have HX := Lib.hid hx
           have HY := Lib.hid hy
           have HO1 := Lib.hid ho1
           have HO2 := Lib.hid ho2
           clear hk hb hx hy ho1 ho2 hb3 hrr hcs)
        | (refine wpList_load_row rfl 32 (.tmp 4) rfl (w.heap.size + 1) rfl 32 _ _ _ HBN.out Tryd.underlying32 rfl HZC.out ?_)
        | (go_at_call 18
           refine HRR.out.mono ?_
           rintro e w4 ⟨rfl, hb4⟩
           have hz4 := hb4.size
           have HBN4 := Lib.hid (HBN.out.below hb4 HBN.out.lt)
           have HR4 := Lib.hid (HR3.out.below hb4 HR3.out.lt)
           have HB4 := Lib.hid (HB3.out.trans (hb4.mono HB3.out.size))
           have HO3 := Lib.hid (own_below HO1.out hb4)
           have HO4 := Lib.hid (own_below HO2.out hb4)
           clear hb4)
        | (refine wpList_load_row rfl 32 (.tmp 4) rfl (w.heap.size + 1) rfl 32 _ _ _ HBN4.out Tryd.underlying32 rfl HZC.out ?_)
        | (refine wpList_store_row rfl 32 (.tmp 2) (.tmp 21) rfl w.heap.size cs rfl rfl 32 _ HR4.out HZC.out (by rw [HSC.out]; rfl) HOC.out ?_
           generalize hww : World.setRow _ _ _ = w5
           have HB5 : Hid (Below w.heap.size w w5) := by unfold Hid; rw [← hww]; exact below_setRow' HB4.out (Nat.le_refl _) _
           have HR5 : Hid (Blk w5 w.heap.size 32 cs) := by unfold Hid; rw [← hww]; exact cells_setRow HR4.out
           have HO5 : Hid (w5.ownsRow w2.heap.size 5 1 (.slice dA x.l.length dc) x.l.length (bcells x.l)) := by unfold Hid; rw [← hww]; exact own_far HO3.out (Kp.setRow w.heap.size cs) (by simp; omega)
           have HO6 : Hid (w5.ownsRow w2.heap.size 57 3 (.slice aA x.L.length ac) x.L.length (aclCells x.L)) := by unfold Hid; rw [← hww]; exact own_far HO4.out (Kp.setRow w.heap.size cs) (by simp; omega)
           clear hww))
      refine bodyPost_ret (results_cell_tmp rfl _ _ w.heap.size 32 cs _ (.int .i64 0) rfl rfl HR5.out Tryd.underlying32 rfl HZC.out) rfl ?_
      refine ⟨HB5.out, ?_⟩
      rw [HDX.out, HCS.out]
      exact ⟨dA, dc, aA, ac, rfl, HX.out, HY.out, own_low HO5.out (by omega), own_low HO6.out (by omega)⟩
    · have HDX : Hid (decN l = .inl E) := by unfold Hid; rw [HD.out, if_neg h1]
      have h2 : (E != 0) = true := by simp [h1]
      have HNE := Lib.hid h1
      clear HD h1
      go_enter Tryd.func23, Tryd.ntmps23
      go_wp2_with (first
        | (go_at_call 64
           refine HA.out.mono ?_
           rintro e w3 ⟨at_, rfl, hk, dA, dc, aA, ac, hb, hx, hy, ho1, ho2⟩
           have hz3 := hk.size
           have hb3 : Below w.heap.size w w3 := HB2.out.trans (hk.below (by simp) (by omega))
           have hrr := HRT.out w3 hb3 w3.heap.size (Nat.le_refl _) dA dc aA ac hx hy (Reads.of_own ho2)
           obtain ⟨cs, hcs⟩ : ∃ cs, cs = nodeCs (.slice dA x.l.length dc) (.slice aA x.L.length ac) x := ⟨_, rfl⟩
           rw [← hcs] at hb hrr
           have HZC : Hid ((Tryd.prog.info? 32).map (·.size) = some cs.size) := by rw [hcs]; exact HZ.out _ _ _ _ _ _
           have HBN := Lib.hid hb
           have HR3 := Lib.hid (HR.out.kp hk (by simp))
           have HB3 := Lib.hid hb3
           have HRR := Lib.hid hrr
           clear hk hb hx hy ho1 ho2 hb3 hrr hcs)
        | (refine wpList_load_row rfl 32 (.tmp 4) rfl (w.heap.size + 1) rfl 32 _ _ _ HBN.out Tryd.underlying32 rfl HZC.out ?_)
        | (go_at_call 18
           refine HRR.out.mono ?_
           rintro e w4 ⟨rfl, hb4⟩
           have HR4 := Lib.hid (HR3.out.below hb4 HR3.out.lt)
           have HB4 := Lib.hid (HB3.out.trans (hb4.mono HB3.out.size))
           clear hb4)
        | (refine wpList_store_row rfl 32 (.tmp 2) (.tmp 19) rfl w.heap.size #[.string ⟨#[]⟩, .slice none 0 0, .slice none 0 0, .int .i64 0, .int .i64 0, .int .i64 0, .int .i64 0, .int .i64 0, .int .i64 0, .int .i64 0, .int .i64 0, .int .i32 0, .int .i32 0, .int .i32 0, .bool false, .int .i64 0, .int .i64 0] rfl rfl 32 _ HR4.out (by rw [node_size]; rfl) rfl (by simp [Value.oneCell']) ?_
           generalize hww : World.setRow _ _ _ = w5
           have HB5 : Hid (Below w.heap.size w w5) := by unfold Hid; rw [← hww]; exact below_setRow' HB4.out (Nat.le_refl _) _
           have HR5 : Hid (Blk w5 w.heap.size 32 #[.string ⟨#[]⟩, .slice none 0 0, .slice none 0 0, .int .i64 0, .int .i64 0, .int .i64 0, .int .i64 0, .int .i64 0, .int .i64 0, .int .i64 0, .int .i64 0, .int .i32 0, .int .i32 0, .int .i32 0, .bool false, .int .i64 0, .int .i64 0]) := by unfold Hid; rw [← hww]; exact cells_setRow HR4.out
           clear hww))
      refine bodyPost_ret (results_cell_tmp rfl _ _ w.heap.size 32 #[.string ⟨#[]⟩, .slice none 0 0, .slice none 0 0, .int .i64 0, .int .i64 0, .int .i64 0, .int .i64 0, .int .i64 0, .int .i64 0, .int .i64 0, .int .i64 0, .int .i32 0, .int .i32 0, .int .i32 0, .bool false, .int .i64 0, .int .i64 0] _ (.int .i64 E) rfl rfl HR5.out Tryd.underlying32 rfl (by rw [node_size]; rfl)) rfl ?_
      exact DecEnd.no HDX.out HNE.out HB5.out
end Go.Proofs.YtaojjjcaofhmcaaDoor
