/- The statement of OpsCounts, closed from its walk: whatever the input, the law returns true and each argument reads as it read. -/
import Derived.Test.YtpjjnmdfgcfnmaaGreatDoorLaw
import Derived.Test.YtpjjnmdfgcfnmaaGreatDoorOu2
import Derived.Test.YtpjjnmdfgcfnmaaGreatDoorCards
import Derived.Test.YtpjjnmdfgcfnmaaGreatDoorTie
import Derived.ProofKit
import Derived.OpenShut
import Derived.SizedLaws
import Derived.Deep.DeepHandedRow
set_option linter.unusedVariables false
set_option linter.unusedSimpArgs false
namespace Go.Proofs.YtpjjnmdfgcfnmaaGreatDoor
open Go.ChangeShapes Go.WideShapes Go.ChangeAt Go.RowKit
open Go.ChangeMaps (open_string shut_string)

set_option linter.unusedVariables false in
set_option maxRecDepth 100000 in
theorem opsCounts_contractU (H : Type) (enc : TypeId × Value → H) (W : World) (base : Nat) (args : Array Value) (ds gs : List (DataW H)) (before : List MemPlace)
    (hval0 : ∀ (j : Nat) t v, Tryz.f4.params[j]? = some t → args[j]? = some v → Value.okWide Tryz.prog W .any base t v)
    (hW : DataW.Whole enc Tryz.prog Tryz.f4.params.toList Rows.opsCountsSpec.vars false W args.toList ds gs before)
    (hlaid : laidMetH Tryz.prog Rows.opsCountsUptoRow.laid W)
    (hk0 : Rows.uptoSmall H (ds ++ gs) = true)
    (hsz0 : (DataW.weightsEach Tryz.prog (Tryz.f4.params.toList ++ Rows.opsCountsSpec.plain.varTypes Tryz.prog) (ds ++ gs)).all (· ≤ reachBytes) = true) :
    Calls Tryz.prog 4 args W fun e W' => ∃ v, e = .returned v ∧ Rows.opsCountsSpec.post enc Tryz.prog Tryz.f4 false true false false W args v W' := by
  have hW' := hW
  obtain ⟨p, q, hA0, hV, rfl, hfz, hnd⟩ := hW
  have hA : DataW.TrodAll enc Tryz.prog W 0 (fun _ => true) true Tryz.f4.params.toList args.toList ds p := hA0
  have hval : ∀ (j : Nat) t v, Tryz.f4.params[j]? = some t → args[j]? = some v → Value.okWide Tryz.prog W .any base t v := hval0
  rw [Tryz.params4] at hA hval
  obtain ⟨v0, vs0, d0, ds0, p0, q0, hargs, rfl, rfl, h0, r0⟩ := trodAll_cons hA
  obtain ⟨rfl, rfl, rfl⟩ := trodAll_nil r0
  obtain rfl : args = #[v0] := by cases args; simp_all
  obtain ⟨rfl, rfl⟩ := trodVars_none hV
  have hsz : (DataW.weightsEach Tryz.prog ([29] : List TypeId) ([d0] : List (DataW H))).all (· ≤ reachBytes) = true := by
    rw [Tryz.params4] at hsz0; exact hsz0
  have hk : Rows.uptoBulkAll ([d0] : List (DataW H)) ≤ 1048576 := of_decide_eq_true hk0
  refine (opsCounts_walk enc base W v0 d0 p0 (hval 0 29 v0 rfl rfl) h0 hsz hk hlaid).mono fun e W' ⟨he, hb⟩ => ?_
  subst he
  exact ⟨_, rfl, law_post Tryz.laidOut (by kernel_rfl) rfl rfl Tryz.underlying4 hW' rfl hb⟩

/-- a table's datum as cells -/
def opsCounts_lit : DataW Unit → Value
  | .lit (.int k n) => .int k n
  | .lit (.bool b) => .bool b
  | _ => .nilIface
def opsCounts_cells : DataW Unit → List Value
  | .agg l => l.flatMap fun d => match d with
    | .agg l => l.map opsCounts_lit
    | d => [opsCounts_lit d]
  | d => [opsCounts_lit d]
def opsCounts_put (d : DataW Unit) : Obj → Obj
  | .cells _ t frozen => .cells (opsCounts_cells d).toArray t frozen
  | x => x
noncomputable def opsCounts_world (os : Os) : World := { World.holding Tryz.prog os ⟨#[], #[], []⟩ with heap := (((World.holding Tryz.prog os ⟨#[], #[], []⟩).heap.modify 1 (opsCounts_put Rows.laid_unicode_utf8_acceptRanges)).modify 0 (opsCounts_put Rows.laid_unicode_utf8_first)) }
theorem opsCounts_laid_met (os : Os) : laidMet Tryz.prog Rows.opsCountsUptoRow.laid ((opsCounts_world os).forCall (fun _ _ => 0) ⟨#[], #[.agg #[.int .i32 0, .string .empty, .slice none 0 0, .slice none 0 0, .int .i32 0, .int .i32 0, .bool false, .int .i64 0, .int .i64 0, .int .i64 0, .int .i64 0, .slice none 0 0, .slice none 0 0, .slice none 0 0, .slice none 0 0, .slice none 0 0, .int .i32 0, .slice none 0 0, .slice none 0 0]], []⟩).memory :=
  laidMet_of_run' 8 (by kernel_rfl) (by kernel_rfl)
theorem opsCounts_reads (os : Os) {H : Type} (enc : TypeId × Value → H) : ∃ places, DataW.whole enc Tryz.prog ((opsCounts_world os).forCall (fun _ _ => 0) ⟨#[], #[.agg #[.int .i32 0, .string .empty, .slice none 0 0, .slice none 0 0, .int .i32 0, .int .i32 0, .bool false, .int .i64 0, .int .i64 0, .int .i64 0, .int .i64 0, .slice none 0 0, .slice none 0 0, .slice none 0 0, .slice none 0 0, .slice none 0 0, .int .i32 0, .slice none 0 0, .slice none 0 0]], []⟩).memory Tryz.f4.params.toList Rows.opsCountsSpec.vars false (#[.agg #[.int .i32 0, .string .empty, .slice none 0 0, .slice none 0 0, .int .i32 0, .int .i32 0, .bool false, .int .i64 0, .int .i64 0, .int .i64 0, .int .i64 0, .slice none 0 0, .slice none 0 0, .slice none 0 0, .slice none 0 0, .slice none 0 0, .int .i32 0, .slice none 0 0, .slice none 0 0]] : Array Value).toList 8 = some ([.agg [.lit (.int .i32 0), .lit (.string []), .nil, .nil, .lit (.int .i32 0), .lit (.int .i32 0), .lit (.bool false), .lit (.int .i64 0), .lit (.int .i64 0), .lit (.int .i64 0), .lit (.int .i64 0), .agg [.nil, .nil, .nil, .nil, .nil], .lit (.int .i32 0), .nil, .nil]], [], places) :=
  ⟨[], by kernel_rfl⟩
set_option maxRecDepth 100000 in
theorem opsCounts_lifted (os : Os) (started : os.Started) (H : Type) (enc : TypeId × Value → H) (F : Stop.Interp) :
    ReturnsInHanded {} Tryz.checked os 4 .any ((Rows.OpenSpec.upto Rows.opsCountsSpec).preRow enc Tryz.prog Tryz.f4 Rows.opsCountsUptoRow.domain false Rows.opsCountsUptoRow.laid) (((Rows.OpenSpec.upto Rows.opsCountsSpec).at F).post enc Tryz.prog Tryz.f4 false true false false) := by
  obtain ⟨places, hx⟩ := opsCounts_reads os enc
  refine returnsInHanded_of_row (C := Tryz.checked) (s := Rows.OpenSpec.upto Rows.opsCountsSpec) Tryz.own started (by kernel_rfl) Tryz.func4
    (witness_row_at (enc := enc) (C := Tryz.checked) false (opsCounts_world os) #[.agg #[.int .i32 0, .string .empty, .slice none 0 0, .slice none 0 0, .int .i32 0, .int .i32 0, .bool false, .int .i64 0, .int .i64 0, .int .i64 0, .int .i64 0, .slice none 0 0, .slice none 0 0, .slice none 0 0, .slice none 0 0, .slice none 0 0, .int .i32 0, .slice none 0 0, .slice none 0 0]] rfl (by kernel_rfl) (by kernel_rfl) (by kernel_rfl)
      (OpenSpec.preRow_of_cond 8 hx (by kernel_rfl) (fun k hk => by cases hk; kernel_rfl) (by kernel_rfl) (opsCounts_laid_met os))) ?_
  intro W base args ds gs before hval hW _ hcond hsz hlaid _ _
  exact opsCounts_contractU H enc W base args ds gs before hval hW hlaid (hcond _ rfl) hsz
theorem opsCountsUpto_said : Rows.OpsCountsUptoSaid :=
  OpenClaim.holds_of_cond 4 Tryz.f4 rfl rfl rfl rfl rfl rfl rfl ⟨rfl, rfl, rfl, rfl, rfl⟩ rfl rfl rfl rfl rfl (by kernel_rfl) Tryz.func4 (by kernel_rfl)
    (of_decide_eq_true (by kernel_rfl)) (by unfold Func.isWrapper; first | (rw [if_pos (by decide +kernel)]; kernel_rfl) | (rw [if_neg (by decide +kernel)]; exact ⟨rfl, rfl⟩))
    (fun os started H enc _ F => by rw [OpenClaim.pre_eq_preRow]; exact opsCounts_lifted os started H enc F)
theorem opsCounts_plain (f : FuncId) (fn : Func) (hf : Tryz.pinned.checked.prog.funcNamed "arbor/arborlaw11.OpsCounts" = some f) (hfn : Tryz.pinned.checked.prog.funcs[f]? = some fn) :
    true = Tryz.pinned.checked.prog.looks [] ∧ ∀ (j : Nat) t, fn.params[j]? = some t → Tryz.pinned.checked.prog.wantsStandIn t = false := by
  obtain rfl : f = 4 := Option.some.inj ((show Tryz.prog.funcNamed "arbor/arborlaw11.OpsCounts" = some 4 by kernel_rfl).symm.trans hf) |>.symm
  obtain rfl : fn = Tryz.f4 := (Option.some.inj (Tryz.func4.symm.trans hfn)).symm
  refine ⟨by kernel_rfl, fun j t ht => ?_⟩
  rw [Tryz.params4] at ht
  have hm : t ∈ [29] := by simpa using Array.mem_of_getElem? ht
  have hall : (([29] : List TypeId).all fun u => !Tryz.prog.wantsStandIn u) = true := by kernel_rfl
  exact (show Tryz.prog.wantsStandIn t = false by simpa using List.all_eq_true.1 hall t hm)
theorem opsCountsUpto_card : Rows.OpsCountsUptoCardSaid :=
  Claim7.holds_tied_plain_at .later [] _ _ _ _ opsCountsUpto_said (fun _ h => by cases h) (by kernel_rfl) (fun _ h => by cases h) opsCountsUpto_row_tie rfl ⟨rfl, rfl⟩ (by kernel_rfl) rfl opsCounts_plain (by kernel_rfl)
end Go.Proofs.YtpjjnmdfgcfnmaaGreatDoor
