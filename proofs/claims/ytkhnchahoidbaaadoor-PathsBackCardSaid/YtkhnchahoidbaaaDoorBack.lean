/- The statement of PathsBack, closed from its walk: whatever the input, the law returns true and each argument reads as it read. -/
import Derived.Test.YtkhnchahoidbaaaDoorLaw
import Derived.Test.YtkhnchahoidbaaaDoorPd32
import Derived.Test.YtkhnchahoidbaaaDoorCards
import Derived.Test.YtkhnchahoidbaaaDoorTie
import Derived.ProofKit
import Derived.OpenShut
import Derived.SizedLaws
import Derived.Deep.DeepHandedRow
namespace Go.Proofs.YtkhnchahoidbaaaDoor
open Go.ChangeShapes Go.WideShapes Go.ChangeAt Go.RowKit
open Go.ChangeMaps (open_string shut_string)

set_option linter.unusedVariables false in
set_option maxRecDepth 100000 in
theorem pathsBack_contract (H : Type) (enc : TypeId × Value → H) (W : World) (base : Nat) (args : Array Value) (ds gs : List (DataW H)) (before : List MemPlace)
    (hval0 : ∀ (j : Nat) t v, Tryd.f9.params[j]? = some t → args[j]? = some v → Value.okWide Tryd.prog W .any base t v)
    (hW : DataW.Whole enc Tryd.prog Tryd.f9.params.toList Rows.pathsBackSpec.vars false W args.toList ds gs before)
    (hlaid : laidMetH Tryd.prog Rows.pathsBackRow.laid W)
    (hsh : W.ShapedOpen Tryd.prog)
    (hsz0 : (DataW.weightsEach Tryd.prog (Tryd.f9.params.toList ++ Rows.pathsBackSpec.plain.varTypes Tryd.prog) (ds ++ gs)).all (· ≤ reachBytes) = true) :
    Calls Tryd.prog 9 args W fun e W' => ∃ v, e = .returned v ∧ Rows.pathsBackSpec.post enc Tryd.prog Tryd.f9 false true false false W args v W' := by
  have hW' := hW
  obtain ⟨p, q, hA0, hV, rfl, hfz, hnd⟩ := hW
  have hA : DataW.TrodAll enc Tryd.prog W 0 (fun _ => true) true Tryd.f9.params.toList args.toList ds p := hA0
  have hval : ∀ (j : Nat) t v, Tryd.f9.params[j]? = some t → args[j]? = some v → Value.okWide Tryd.prog W .any base t v := hval0
  rw [Tryd.params9] at hA hval
  obtain ⟨v0, vs0, d0, ds0, p0, q0, hargs, rfl, rfl, h0, r0⟩ := trodAll_cons hA
  obtain ⟨v1, vs1, d1, ds1, p1, q1, rfl, rfl, rfl, h1, r1⟩ := trodAll_cons r0
  obtain ⟨rfl, rfl, rfl⟩ := trodAll_nil r1
  obtain rfl : args = #[v0, v1] := by cases args; simp_all
  obtain ⟨rfl, rfl⟩ := trodVars_none hV
  obtain ⟨a0, rfl, rfl, rfl, w0⟩ := open_string Tryd.underlying9 (hval 0 9 v0 rfl rfl) h0
  obtain ⟨a1, rfl, rfl, rfl, w1⟩ := open_int Tryd.underlying21 (hval 1 21 v1 rfl rfl) h1
  have hsz : (DataW.weightsEach Tryd.prog ([9, 21] : List TypeId) ([DataW.lit (.string a0.data.toList), DataW.lit (.int .i32 a1)] : List (DataW H))).all (· ≤ reachBytes) = true := by
    rw [Tryd.params9] at hsz0; exact hsz0
  refine (pathsBack_walk a0 w0 a1 w1 W hsz hsh hlaid).mono fun e W' ⟨he, hb⟩ => ?_
  subst he
  exact ⟨_, rfl, law_post Tryd.laidOut (by kernel_rfl) rfl rfl Tryd.underlying4 hW' rfl hb⟩

/-- a table's datum as cells -/
def pathsBack_lit : DataW Unit → Value
  | .lit (.int k n) => .int k n
  | .lit (.bool b) => .bool b
  | _ => .nilIface
def pathsBack_cells : DataW Unit → List Value
  | .agg l => l.flatMap fun d => match d with
    | .agg l => l.map pathsBack_lit
    | d => [pathsBack_lit d]
  | d => [pathsBack_lit d]
def pathsBack_put (d : DataW Unit) : Obj → Obj
  | .cells _ t frozen => .cells (pathsBack_cells d).toArray t frozen
  | x => x
def pathsBack_set (cs : Array Value) : Obj → Obj
  | .cells _ t frozen => .cells cs t frozen
  | x => x
noncomputable def pathsBack_heap (os : Os) : Array Obj := ((((((World.holding Tryd.prog os ⟨#[], #[], []⟩).heap.modify 6 (pathsBack_put Rows.laid_math_bits_deBruijn32tab)).modify 7 (pathsBack_put Rows.laid_math_bits_deBruijn64tab)).modify 1 (pathsBack_put Rows.laid_internal_strconv_uint64pow10)).modify 5 (pathsBack_put Rows.laid_unicode_utf8_acceptRanges)).modify 4 (pathsBack_put Rows.laid_unicode_utf8_first))
noncomputable def pathsBack_world (os : Os) : World := { World.holding Tryd.prog os ⟨#[], #[], []⟩ with heap := ((((pathsBack_heap os).modify 3 (pathsBack_set #[.iface 119 (.pointer (some ⟨(pathsBack_heap os).size + 0, 0, none⟩))])).modify 2 (pathsBack_set #[.iface 119 (.pointer (some ⟨(pathsBack_heap os).size + 1, 0, none⟩))])).push (.cells #[.string ⟨#[118, 97, 108, 117, 101, 32, 111, 117, 116, 32, 111, 102, 32, 114, 97, 110, 103, 101]⟩] 121)).push (.cells #[.string ⟨#[105, 110, 118, 97, 108, 105, 100, 32, 115, 121, 110, 116, 97, 120]⟩] 121) }
theorem pathsBack_laid_met (os : Os) : laidMet Tryd.prog Rows.pathsBackRow.laid ((pathsBack_world os).forCall (fun _ _ => 0) ⟨#[], #[.string .empty, .int .i32 0], []⟩).memory :=
  laidMet_of_run' 8 (by kernel_rfl) (by kernel_rfl)
theorem pathsBack_reads (os : Os) {H : Type} (enc : TypeId × Value → H) : ∃ places, DataW.whole enc Tryd.prog ((pathsBack_world os).forCall (fun _ _ => 0) ⟨#[], #[.string .empty, .int .i32 0], []⟩).memory Tryd.f9.params.toList Rows.pathsBackSpec.vars false (#[.string .empty, .int .i32 0] : Array Value).toList 8 = some ([.lit (.string []), .lit (.int .i32 0)], [], places) :=
  ⟨[], by kernel_rfl⟩
set_option maxRecDepth 100000 in
theorem pathsBack_lifted (os : Os) (started : os.Started) (H : Type) (enc : TypeId × Value → H) (F : Stop.Interp) :
    ReturnsInHanded {} Tryd.checked os 9 .any ((OpenSpec.ofChange Rows.pathsBackSpec).preRow enc Tryd.prog Tryd.f9 Rows.pathsBackRow.domain false Rows.pathsBackRow.laid) (((OpenSpec.ofChange Rows.pathsBackSpec).at F).post enc Tryd.prog Tryd.f9 false true false false) := by
  obtain ⟨places, hx⟩ := pathsBack_reads os enc
  refine returnsInHanded_of_row (C := Tryd.checked) (s := OpenSpec.ofChange Rows.pathsBackSpec) Tryd.own started (by kernel_rfl) Tryd.func9
    (witness_row_at (enc := enc) (C := Tryd.checked) false (pathsBack_world os) #[.string .empty, .int .i32 0] rfl (by kernel_rfl) (by kernel_rfl) (by kernel_rfl)
      (OpenSpec.preRow_of_cond 8 hx (by kernel_rfl) (fun k hk => by cases hk) (by kernel_rfl) (pathsBack_laid_met os))) ?_
  intro W base args ds gs before hval hW _ _ hsz hlaid hsh _
  exact pathsBack_contract H enc W base args ds gs before hval hW hlaid hsh hsz
theorem pathsBack_said : Rows.PathsBackSaid :=
  OpenClaim.holds_of_cond 9 Tryd.f9 rfl rfl rfl rfl rfl rfl rfl ⟨rfl, rfl, rfl, rfl, rfl⟩ rfl rfl rfl rfl rfl (by kernel_rfl) Tryd.func9 (by kernel_rfl)
    (of_decide_eq_true (by kernel_rfl)) (by unfold Func.isWrapper; first | (rw [if_pos (by decide +kernel)]; kernel_rfl) | (rw [if_neg (by decide +kernel)]; exact ⟨rfl, rfl⟩))
    (fun os started H enc _ F => by rw [OpenClaim.pre_eq_preRow]; exact pathsBack_lifted os started H enc F)
theorem pathsBack_plain (f : FuncId) (fn : Func) (hf : Tryd.pinned.checked.prog.funcNamed "arbor/arborlaw03.PathsBack" = some f) (hfn : Tryd.pinned.checked.prog.funcs[f]? = some fn) :
    true = Tryd.pinned.checked.prog.looks [] ∧ ∀ (j : Nat) t, fn.params[j]? = some t → Tryd.pinned.checked.prog.wantsStandIn t = false := by
  obtain rfl : f = 9 := Option.some.inj ((show Tryd.prog.funcNamed "arbor/arborlaw03.PathsBack" = some 9 by kernel_rfl).symm.trans hf) |>.symm
  obtain rfl : fn = Tryd.f9 := (Option.some.inj (Tryd.func9.symm.trans hfn)).symm
  refine ⟨by kernel_rfl, fun j t ht => ?_⟩
  rw [Tryd.params9] at ht
  have hm : t ∈ [9, 21] := by simpa using Array.mem_of_getElem? ht
  have hall : (([9, 21] : List TypeId).all fun u => !Tryd.prog.wantsStandIn u) = true := by kernel_rfl
  exact (show Tryd.prog.wantsStandIn t = false by simpa using List.all_eq_true.1 hall t hm)
theorem pathsBack_card : Rows.PathsBackCardSaid :=
  Claim7.holds_tied_plain_at .later [] _ _ _ _ pathsBack_said (fun _ h => by cases h) (by kernel_rfl) (fun _ h => by cases h) pathsBack_row_tie rfl ⟨rfl, rfl⟩ (by kernel_rfl) rfl pathsBack_plain (by kernel_rfl)
end Go.Proofs.YtkhnchahoidbaaaDoor
