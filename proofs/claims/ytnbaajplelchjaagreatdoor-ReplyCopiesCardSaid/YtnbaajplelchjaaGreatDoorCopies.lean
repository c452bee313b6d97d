/- The statement of ReplyCopies, closed from its walk: whatever the input, the law returns true and each argument reads as it read. -/
import Derived.Test.YtnbaajplelchjaaGreatDoorLaw
import Derived.Test.YtnbaajplelchjaaGreatDoorRb6
import Derived.Test.YtnbaajplelchjaaGreatDoorCards
import Derived.Test.YtnbaajplelchjaaGreatDoorTie
import Derived.ProofKit
import Derived.OpenShut
import Derived.SizedLaws
import Derived.Deep.DeepHandedRow
set_option linter.unusedVariables false
set_option linter.unusedSimpArgs false
namespace Go.Proofs.YtnbaajplelchjaaGreatDoor
open Go.ChangeShapes Go.WideShapes Go.ChangeAt Go.RowKit
open Go.ChangeMaps (open_string shut_string)

set_option linter.unusedVariables false in
set_option maxRecDepth 100000 in
theorem replyCopies_contract (H : Type) (enc : TypeId × Value → H) (W : World) (base : Nat) (args : Array Value) (ds gs : List (DataW H)) (before : List MemPlace)
    (hval0 : ∀ (j : Nat) t v, Tryz.f6.params[j]? = some t → args[j]? = some v → Value.okWide Tryz.prog W .any base t v)
    (hW : DataW.Whole enc Tryz.prog Tryz.f6.params.toList Rows.replyCopiesSpec.vars false W args.toList ds gs before)
    (hlaid : laidMetH Tryz.prog Rows.replyCopiesRow.laid W)
    (hsz0 : (DataW.weightsEach Tryz.prog (Tryz.f6.params.toList ++ Rows.replyCopiesSpec.plain.varTypes Tryz.prog) (ds ++ gs)).all (· ≤ reachBytes) = true) :
    Calls Tryz.prog 6 args W fun e W' => ∃ v, e = .returned v ∧ Rows.replyCopiesSpec.post enc Tryz.prog Tryz.f6 false true false false W args v W' := by
  have hW' := hW
  obtain ⟨p, q, hA0, hV, rfl, hfz, hnd⟩ := hW
  have hA : DataW.TrodAll enc Tryz.prog W 0 (fun _ => true) true Tryz.f6.params.toList args.toList ds p := hA0
  have hval : ∀ (j : Nat) t v, Tryz.f6.params[j]? = some t → args[j]? = some v → Value.okWide Tryz.prog W .any base t v := hval0
  rw [Tryz.params6] at hA hval
  obtain ⟨v0, vs0, d0, ds0, p0, q0, hargs, rfl, rfl, h0, r0⟩ := trodAll_cons hA
  obtain ⟨v1, vs1, d1, ds1, p1, q1, rfl, rfl, rfl, h1, r1⟩ := trodAll_cons r0
  obtain ⟨rfl, rfl, rfl⟩ := trodAll_nil r1
  obtain rfl : args = #[v0, v1] := by cases args; simp_all
  obtain ⟨rfl, rfl⟩ := trodVars_none hV
  have hsz : (DataW.weightsEach Tryz.prog ([35, 35] : List TypeId) ([d0, d1] : List (DataW H))).all (· ≤ reachBytes) = true := by
    rw [Tryz.params6] at hsz0; exact hsz0
  refine (replyCopies_walk enc base W v0 d0 p0 (hval 0 35 v0 rfl rfl) h0 v1 d1 p1 (hval 1 35 v1 rfl rfl) h1 hsz hlaid).mono fun e W' ⟨he, hb⟩ => ?_
  subst he
  exact ⟨_, rfl, law_post Tryz.laidOut (by kernel_rfl) rfl rfl Tryz.underlying4 hW' rfl hb⟩

/-- a table's datum as cells -/
def replyCopies_lit : DataW Unit → Value
  | .lit (.int k n) => .int k n
  | .lit (.bool b) => .bool b
  | _ => .nilIface
def replyCopies_cells : DataW Unit → List Value
  | .agg l => l.flatMap fun d => match d with
    | .agg l => l.map replyCopies_lit
    | d => [replyCopies_lit d]
  | d => [replyCopies_lit d]
def replyCopies_put (d : DataW Unit) : Obj → Obj
  | .cells _ t frozen => .cells (replyCopies_cells d).toArray t frozen
  | x => x
noncomputable def replyCopies_world (os : Os) : World := { World.holding Tryz.prog os ⟨#[], #[], []⟩ with heap := ((((((World.holding Tryz.prog os ⟨#[], #[], []⟩).heap.modify 5 (replyCopies_put Rows.laid_math_bits_deBruijn32tab)).modify 6 (replyCopies_put Rows.laid_math_bits_deBruijn64tab)).modify 4 (replyCopies_put Rows.laid_internal_strconv_uint64pow10)).modify 1 (replyCopies_put Rows.laid_unicode_utf8_acceptRanges)).modify 0 (replyCopies_put Rows.laid_unicode_utf8_first)) }
theorem replyCopies_laid_met (os : Os) : laidMet Tryz.prog Rows.replyCopiesRow.laid ((replyCopies_world os).forCall (fun _ _ => 0) ⟨#[], #[.agg #[.int .i32 0, .int .i64 0, .int .i32 0, .int .i32 0, .int .i32 0, .string .empty, .int .i64 0, .int .i64 0, .int .i64 0, .int .i64 0, .int .i32 0, .int .i32 0, .int .i32 0, .int .i64 0, .int .i32 0, .int .i32 0, .int .i64 0, .slice none 0 0, .slice none 0 0, .slice none 0 0, .int .i32 0, .int .i64 0, .int .i32 0, .slice none 0 0, .slice none 0 0], .agg #[.int .i32 0, .int .i64 0, .int .i32 0, .int .i32 0, .int .i32 0, .string .empty, .int .i64 0, .int .i64 0, .int .i64 0, .int .i64 0, .int .i32 0, .int .i32 0, .int .i32 0, .int .i64 0, .int .i32 0, .int .i32 0, .int .i64 0, .slice none 0 0, .slice none 0 0, .slice none 0 0, .int .i32 0, .int .i64 0, .int .i32 0, .slice none 0 0, .slice none 0 0]], []⟩).memory :=
  laidMet_of_run' 8 (by kernel_rfl) (by kernel_rfl)
theorem replyCopies_reads (os : Os) {H : Type} (enc : TypeId × Value → H) : ∃ places, DataW.whole enc Tryz.prog ((replyCopies_world os).forCall (fun _ _ => 0) ⟨#[], #[.agg #[.int .i32 0, .int .i64 0, .int .i32 0, .int .i32 0, .int .i32 0, .string .empty, .int .i64 0, .int .i64 0, .int .i64 0, .int .i64 0, .int .i32 0, .int .i32 0, .int .i32 0, .int .i64 0, .int .i32 0, .int .i32 0, .int .i64 0, .slice none 0 0, .slice none 0 0, .slice none 0 0, .int .i32 0, .int .i64 0, .int .i32 0, .slice none 0 0, .slice none 0 0], .agg #[.int .i32 0, .int .i64 0, .int .i32 0, .int .i32 0, .int .i32 0, .string .empty, .int .i64 0, .int .i64 0, .int .i64 0, .int .i64 0, .int .i32 0, .int .i32 0, .int .i32 0, .int .i64 0, .int .i32 0, .int .i32 0, .int .i64 0, .slice none 0 0, .slice none 0 0, .slice none 0 0, .int .i32 0, .int .i64 0, .int .i32 0, .slice none 0 0, .slice none 0 0]], []⟩).memory Tryz.f6.params.toList Rows.replyCopiesSpec.vars false (#[.agg #[.int .i32 0, .int .i64 0, .int .i32 0, .int .i32 0, .int .i32 0, .string .empty, .int .i64 0, .int .i64 0, .int .i64 0, .int .i64 0, .int .i32 0, .int .i32 0, .int .i32 0, .int .i64 0, .int .i32 0, .int .i32 0, .int .i64 0, .slice none 0 0, .slice none 0 0, .slice none 0 0, .int .i32 0, .int .i64 0, .int .i32 0, .slice none 0 0, .slice none 0 0], .agg #[.int .i32 0, .int .i64 0, .int .i32 0, .int .i32 0, .int .i32 0, .string .empty, .int .i64 0, .int .i64 0, .int .i64 0, .int .i64 0, .int .i32 0, .int .i32 0, .int .i32 0, .int .i64 0, .int .i32 0, .int .i32 0, .int .i64 0, .slice none 0 0, .slice none 0 0, .slice none 0 0, .int .i32 0, .int .i64 0, .int .i32 0, .slice none 0 0, .slice none 0 0]] : Array Value).toList 8 = some ([.agg [.lit (.int .i32 0), .lit (.int .i64 0), .lit (.int .i32 0), .agg [.lit (.int .i32 0), .lit (.int .i32 0), .lit (.string []), .agg [.lit (.int .i64 0), .lit (.int .i64 0), .lit (.int .i64 0), .lit (.int .i64 0), .lit (.int .i32 0), .lit (.int .i32 0), .lit (.int .i32 0), .lit (.int .i64 0), .lit (.int .i32 0), .lit (.int .i32 0), .lit (.int .i64 0)], .nil, .nil, .nil, .lit (.int .i32 0), .agg [.lit (.int .i64 0), .lit (.int .i32 0), .nil], .nil]], .agg [.lit (.int .i32 0), .lit (.int .i64 0), .lit (.int .i32 0), .agg [.lit (.int .i32 0), .lit (.int .i32 0), .lit (.string []), .agg [.lit (.int .i64 0), .lit (.int .i64 0), .lit (.int .i64 0), .lit (.int .i64 0), .lit (.int .i32 0), .lit (.int .i32 0), .lit (.int .i32 0), .lit (.int .i64 0), .lit (.int .i32 0), .lit (.int .i32 0), .lit (.int .i64 0)], .nil, .nil, .nil, .lit (.int .i32 0), .agg [.lit (.int .i64 0), .lit (.int .i32 0), .nil], .nil]]], [], places) :=
  ⟨[], by kernel_rfl⟩
set_option maxRecDepth 100000 in
theorem replyCopies_lifted (os : Os) (started : os.Started) (H : Type) (enc : TypeId × Value → H) (F : Stop.Interp) :
    ReturnsInHanded {} Tryz.checked os 6 .any ((OpenSpec.ofChange Rows.replyCopiesSpec).preRow enc Tryz.prog Tryz.f6 Rows.replyCopiesRow.domain false Rows.replyCopiesRow.laid) (((OpenSpec.ofChange Rows.replyCopiesSpec).at F).post enc Tryz.prog Tryz.f6 false true false false) := by
  obtain ⟨places, hx⟩ := replyCopies_reads os enc
  refine returnsInHanded_of_row (C := Tryz.checked) (s := OpenSpec.ofChange Rows.replyCopiesSpec) Tryz.own started (by kernel_rfl) Tryz.func6
    (witness_row_at (enc := enc) (C := Tryz.checked) false (replyCopies_world os) #[.agg #[.int .i32 0, .int .i64 0, .int .i32 0, .int .i32 0, .int .i32 0, .string .empty, .int .i64 0, .int .i64 0, .int .i64 0, .int .i64 0, .int .i32 0, .int .i32 0, .int .i32 0, .int .i64 0, .int .i32 0, .int .i32 0, .int .i64 0, .slice none 0 0, .slice none 0 0, .slice none 0 0, .int .i32 0, .int .i64 0, .int .i32 0, .slice none 0 0, .slice none 0 0], .agg #[.int .i32 0, .int .i64 0, .int .i32 0, .int .i32 0, .int .i32 0, .string .empty, .int .i64 0, .int .i64 0, .int .i64 0, .int .i64 0, .int .i32 0, .int .i32 0, .int .i32 0, .int .i64 0, .int .i32 0, .int .i32 0, .int .i64 0, .slice none 0 0, .slice none 0 0, .slice none 0 0, .int .i32 0, .int .i64 0, .int .i32 0, .slice none 0 0, .slice none 0 0]] rfl (by kernel_rfl) (by kernel_rfl) (by kernel_rfl)
      (OpenSpec.preRow_of_cond 8 hx (by kernel_rfl) (fun k hk => by cases hk) (by kernel_rfl) (replyCopies_laid_met os))) ?_
  intro W base args ds gs before hval hW _ _ hsz hlaid _ _
  exact replyCopies_contract H enc W base args ds gs before hval hW hlaid hsz
theorem replyCopies_said : Rows.ReplyCopiesSaid :=
  OpenClaim.holds_of_cond 6 Tryz.f6 rfl rfl rfl rfl rfl rfl rfl ⟨rfl, rfl, rfl, rfl, rfl⟩ rfl rfl rfl rfl rfl (by kernel_rfl) Tryz.func6 (by kernel_rfl)
    (of_decide_eq_true (by kernel_rfl)) (by unfold Func.isWrapper; first | (rw [if_pos (by decide +kernel)]; kernel_rfl) | (rw [if_neg (by decide +kernel)]; exact ⟨rfl, rfl⟩))
    (fun os started H enc _ F => by rw [OpenClaim.pre_eq_preRow]; exact replyCopies_lifted os started H enc F)
theorem replyCopies_plain (f : FuncId) (fn : Func) (hf : Tryz.pinned.checked.prog.funcNamed "arbor/arborlaw12.ReplyCopies" = some f) (hfn : Tryz.pinned.checked.prog.funcs[f]? = some fn) :
    true = Tryz.pinned.checked.prog.looks [] ∧ ∀ (j : Nat) t, fn.params[j]? = some t → Tryz.pinned.checked.prog.wantsStandIn t = false := by
  obtain rfl : f = 6 := Option.some.inj ((show Tryz.prog.funcNamed "arbor/arborlaw12.ReplyCopies" = some 6 by kernel_rfl).symm.trans hf) |>.symm
  obtain rfl : fn = Tryz.f6 := (Option.some.inj (Tryz.func6.symm.trans hfn)).symm
  refine ⟨by kernel_rfl, fun j t ht => ?_⟩
  rw [Tryz.params6] at ht
  have hm : t ∈ [35, 35] := by simpa using Array.mem_of_getElem? ht
  have hall : (([35, 35] : List TypeId).all fun u => !Tryz.prog.wantsStandIn u) = true := by kernel_rfl
  exact (show Tryz.prog.wantsStandIn t = false by simpa using List.all_eq_true.1 hall t hm)
theorem replyCopies_card : Rows.ReplyCopiesCardSaid :=
  Claim7.holds_tied_plain_at .later [] _ _ _ _ replyCopies_said (fun _ h => by cases h) (by kernel_rfl) (fun _ h => by cases h) replyCopies_row_tie rfl ⟨rfl, rfl⟩ (by kernel_rfl) rfl replyCopies_plain (by kernel_rfl)
end Go.Proofs.YtnbaajplelchjaaGreatDoor
