/- The statement of PathsSuffixes, closed from its walk: whatever the input, the law returns true and each argument reads as it read. -/
import Derived.Test.YtkhnchahoidbaaaDoorLaw
import Derived.Test.YtkhnchahoidbaaaDoorPd18
import Derived.Test.YtkhnchahoidbaaaDoorCards
import Derived.Test.YtkhnchahoidbaaaDoorTie
import Derived.ProofKit
import Derived.OpenShut
import Derived.SizedLaws
import Derived.Deep.DeepHandedRow
namespace Go.Proofs.YtkhnchahoidbaaaDoor
open Go.ChangeShapes Go.WideShapes Go.ChangeAt Go.RowKit
open Go.ChangeMaps (open_string shut_string)

set_option linter.unusedVariables false in
set_option maxRecDepth 100000 in
theorem pathsSuffixes_contract (H : Type) (enc : TypeId × Value → H) (W : World) (base : Nat) (args : Array Value) (ds gs : List (DataW H)) (before : List MemPlace)
    (hval0 : ∀ (j : Nat) t v, Tryd.f4.params[j]? = some t → args[j]? = some v → Value.okWide Tryd.prog W .any base t v)
    (hW : DataW.Whole enc Tryd.prog Tryd.f4.params.toList Rows.pathsSuffixesSpec.vars false W args.toList ds gs before)
    (hlaid : laidMetH Tryd.prog Rows.pathsSuffixesRow.laid W)
    (hsh : W.ShapedOpen Tryd.prog)
    (hsz0 : (DataW.weightsEach Tryd.prog (Tryd.f4.params.toList ++ Rows.pathsSuffixesSpec.plain.varTypes Tryd.prog) (ds ++ gs)).all (· ≤ reachBytes) = true) :
    Calls Tryd.prog 4 args W fun e W' => ∃ v, e = .returned v ∧ Rows.pathsSuffixesSpec.post enc Tryd.prog Tryd.f4 false true false false W args v W' := by
  have hW' := hW
  obtain ⟨p, q, hA0, hV, rfl, hfz, hnd⟩ := hW
  have hA : DataW.TrodAll enc Tryd.prog W 0 (fun _ => true) true Tryd.f4.params.toList args.toList ds p := hA0
  have hval : ∀ (j : Nat) t v, Tryd.f4.params[j]? = some t → args[j]? = some v → Value.okWide Tryd.prog W .any base t v := hval0
  rw [Tryd.params4] at hA hval
  obtain ⟨v0, vs0, d0, ds0, p0, q0, hargs, rfl, rfl, h0, r0⟩ := trodAll_cons hA
  obtain ⟨v1, vs1, d1, ds1, p1, q1, rfl, rfl, rfl, h1, r1⟩ := trodAll_cons r0
  obtain ⟨rfl, rfl, rfl⟩ := trodAll_nil r1
  obtain rfl : args = #[v0, v1] := by cases args; simp_all
  obtain ⟨rfl, rfl⟩ := trodVars_none hV
  obtain ⟨a0, rfl, rfl, rfl, w0⟩ := open_string Tryd.underlying9 (hval 0 9 v0 rfl rfl) h0
  obtain ⟨a1, rfl, rfl, rfl, w1⟩ := open_int Tryd.underlying21 (hval 1 21 v1 rfl rfl) h1
  have hsz : (DataW.weightsEach Tryd.prog ([9, 21] : List TypeId) ([DataW.lit (.string a0.data.toList), DataW.lit (.int .i32 a1)] : List (DataW H))).all (· ≤ reachBytes) = true := by
    rw [Tryd.params4] at hsz0; exact hsz0
  refine (pathsSuffixes_walk a0 w0 a1 w1 W hsz hsh hlaid).mono fun e W' ⟨he, hb⟩ => ?_
  subst he
  exact ⟨_, rfl, law_post Tryd.laidOut (by kernel_rfl) rfl rfl Tryd.underlying4 hW' rfl hb⟩

/-- a table's datum as cells -/
def pathsSuffixes_lit : DataW Unit → Value
  | .lit (.int k n) => .int k n
  | .lit (.bool b) => .bool b
  | _ => .nilIface
def pathsSuffixes_cells : DataW Unit → List Value
  | .agg l => l.flatMap fun d => match d with
    | .agg l => l.map pathsSuffixes_lit
    | d => [pathsSuffixes_lit d]
  | d => [pathsSuffixes_lit d]
def pathsSuffixes_put (d : DataW Unit) : Obj → Obj
  | .cells _ t frozen => .cells (pathsSuffixes_cells d).toArray t frozen
  | x => x
noncomputable def pathsSuffixes_world (os : Os) : World := { World.holding Tryd.prog os ⟨#[], #[], []⟩ with heap := ((((World.holding Tryd.prog os ⟨#[], #[], []⟩).heap.modify 6 (pathsSuffixes_put Rows.laid_math_bits_deBruijn32tab)).modify 7 (pathsSuffixes_put Rows.laid_math_bits_deBruijn64tab)).modify 1 (pathsSuffixes_put Rows.laid_internal_strconv_uint64pow10)) }
theorem pathsSuffixes_laid_met (os : Os) : laidMet Tryd.prog Rows.pathsSuffixesRow.laid ((pathsSuffixes_world os).forCall (fun _ _ => 0) ⟨#[], #[.string .empty, .int .i32 0], []⟩).memory :=
  laidMet_of_run' 8 (by kernel_rfl) (by kernel_rfl)
theorem pathsSuffixes_reads (os : Os) {H : Type} (enc : TypeId × Value → H) : ∃ places, DataW.whole enc Tryd.prog ((pathsSuffixes_world os).forCall (fun _ _ => 0) ⟨#[], #[.string .empty, .int .i32 0], []⟩).memory Tryd.f4.params.toList Rows.pathsSuffixesSpec.vars false (#[.string .empty, .int .i32 0] : Array Value).toList 8 = some ([.lit (.string []), .lit (.int .i32 0)], [], places) :=
  ⟨[], by kernel_rfl⟩
set_option maxRecDepth 100000 in
theorem pathsSuffixes_lifted (os : Os) (started : os.Started) (H : Type) (enc : TypeId × Value → H) (F : Stop.Interp) :
    ReturnsInHanded {} Tryd.checked os 4 .any ((OpenSpec.ofChange Rows.pathsSuffixesSpec).preRow enc Tryd.prog Tryd.f4 Rows.pathsSuffixesRow.domain false Rows.pathsSuffixesRow.laid) (((OpenSpec.ofChange Rows.pathsSuffixesSpec).at F).post enc Tryd.prog Tryd.f4 false true false false) := by
  obtain ⟨places, hx⟩ := pathsSuffixes_reads os enc
  refine returnsInHanded_of_row (C := Tryd.checked) (s := OpenSpec.ofChange Rows.pathsSuffixesSpec) Tryd.own started (by kernel_rfl) Tryd.func4
    (witness_row_at (enc := enc) (C := Tryd.checked) false (pathsSuffixes_world os) #[.string .empty, .int .i32 0] rfl (by kernel_rfl) (by kernel_rfl) (by kernel_rfl)
      (OpenSpec.preRow_of_cond 8 hx (by kernel_rfl) (fun k hk => by cases hk) (by kernel_rfl) (pathsSuffixes_laid_met os))) ?_
  intro W base args ds gs before hval hW _ _ hsz hlaid hsh _
  exact pathsSuffixes_contract H enc W base args ds gs before hval hW hlaid hsh hsz
theorem pathsSuffixes_said : Rows.PathsSuffixesSaid :=
  OpenClaim.holds_of_cond 4 Tryd.f4 rfl rfl rfl rfl rfl rfl rfl ⟨rfl, rfl, rfl, rfl, rfl⟩ rfl rfl rfl rfl rfl (by kernel_rfl) Tryd.func4 (by kernel_rfl)
    (of_decide_eq_true (by kernel_rfl)) (by unfold Func.isWrapper; first | (rw [if_pos (by decide +kernel)]; kernel_rfl) | (rw [if_neg (by decide +kernel)]; exact ⟨rfl, rfl⟩))
    (fun os started H enc _ F => by rw [OpenClaim.pre_eq_preRow]; exact pathsSuffixes_lifted os started H enc F)
theorem pathsSuffixes_plain (f : FuncId) (fn : Func) (hf : Tryd.pinned.checked.prog.funcNamed "arbor/arborlaw03.PathsSuffixes" = some f) (hfn : Tryd.pinned.checked.prog.funcs[f]? = some fn) :
    true = Tryd.pinned.checked.prog.looks [] ∧ ∀ (j : Nat) t, fn.params[j]? = some t → Tryd.pinned.checked.prog.wantsStandIn t = false := by
  obtain rfl : f = 4 := Option.some.inj ((show Tryd.prog.funcNamed "arbor/arborlaw03.PathsSuffixes" = some 4 by kernel_rfl).symm.trans hf) |>.symm
  obtain rfl : fn = Tryd.f4 := (Option.some.inj (Tryd.func4.symm.trans hfn)).symm
  refine ⟨by kernel_rfl, fun j t ht => ?_⟩
  rw [Tryd.params4] at ht
  have hm : t ∈ [9, 21] := by simpa using Array.mem_of_getElem? ht
  have hall : (([9, 21] : List TypeId).all fun u => !Tryd.prog.wantsStandIn u) = true := by kernel_rfl
  exact (show Tryd.prog.wantsStandIn t = false by simpa using List.all_eq_true.1 hall t hm)
theorem pathsSuffixes_card : Rows.PathsSuffixesCardSaid :=
  Claim7.holds_tied_plain_at .later [] _ _ _ _ pathsSuffixes_said (fun _ h => by cases h) (by kernel_rfl) (fun _ h => by cases h) pathsSuffixes_row_tie rfl ⟨rfl, rfl⟩ (by kernel_rfl) rfl pathsSuffixes_plain (by kernel_rfl)
end Go.Proofs.YtkhnchahoidbaaaDoor
