/- The statement of ZxidTexts, closed from its walk: whatever the input, the law returns true and each argument reads as it read. -/
import Derived.Test.YtgbifmcdkigbgaaDoorLaw
import Derived.Test.YtgbifmcdkigbgaaDoorZt6
import Derived.Test.YtgbifmcdkigbgaaDoorCards
import Derived.Test.YtgbifmcdkigbgaaDoorTie
import Derived.ProofKit
import Derived.OpenShut
import Derived.SizedLaws
import Derived.Deep.DeepHandedRow
set_option linter.unusedVariables false
set_option linter.unusedSimpArgs false
namespace Go.Proofs.YtgbifmcdkigbgaaDoor
open Go.ChangeShapes Go.WideShapes Go.ChangeAt Go.RowKit
open Go.ChangeMaps (open_string shut_string)

set_option linter.unusedVariables false in
set_option maxRecDepth 100000 in
theorem zxidTexts_contract (H : Type) (enc : TypeId × Value → H) (W : World) (base : Nat) (args : Array Value) (ds gs : List (DataW H)) (before : List MemPlace)
    (hval0 : ∀ (j : Nat) t v, Tryd.f3.params[j]? = some t → args[j]? = some v → Value.okWide Tryd.prog W .any base t v)
    (hW : DataW.Whole enc Tryd.prog Tryd.f3.params.toList Rows.zxidTextsSpec.vars false W args.toList ds gs before)
    (hlaid : laidMetH Tryd.prog Rows.zxidTextsRow.laid W)
    (hsh : W.ShapedOpen Tryd.prog)
    (hsz0 : (DataW.weightsEach Tryd.prog (Tryd.f3.params.toList ++ Rows.zxidTextsSpec.plain.varTypes Tryd.prog) (ds ++ gs)).all (· ≤ reachBytes) = true) :
    Calls Tryd.prog 3 args W fun e W' => ∃ v, e = .returned v ∧ Rows.zxidTextsSpec.post enc Tryd.prog Tryd.f3 false true false false W args v W' := by
  have hW' := hW
  obtain ⟨p, q, hA0, hV, rfl, hfz, hnd⟩ := hW
  have hA : DataW.TrodAll enc Tryd.prog W 0 (fun _ => true) true Tryd.f3.params.toList args.toList ds p := hA0
  have hval : ∀ (j : Nat) t v, Tryd.f3.params[j]? = some t → args[j]? = some v → Value.okWide Tryd.prog W .any base t v := hval0
  rw [Tryd.params3] at hA hval
  obtain ⟨v0, vs0, d0, ds0, p0, q0, hargs, rfl, rfl, h0, r0⟩ := trodAll_cons hA
  obtain ⟨v1, vs1, d1, ds1, p1, q1, rfl, rfl, rfl, h1, r1⟩ := trodAll_cons r0
  obtain ⟨rfl, rfl, rfl⟩ := trodAll_nil r1
  obtain rfl : args = #[v0, v1] := by cases args; simp_all
  obtain ⟨rfl, rfl⟩ := trodVars_none hV
  obtain ⟨a0, rfl, rfl, rfl, w0⟩ := open_int Tryd.underlying2 (hval 0 2 v0 rfl rfl) h0
  obtain ⟨a1, rfl, rfl, rfl, w1⟩ := open_string Tryd.underlying9 (hval 1 9 v1 rfl rfl) h1
  have hsz : (DataW.weightsEach Tryd.prog ([2, 9] : List TypeId) ([DataW.lit (.int .i64 a0), DataW.lit (.string a1.data.toList)] : List (DataW H))).all (· ≤ reachBytes) = true := by
    rw [Tryd.params3] at hsz0; exact hsz0
  refine (zxidTexts_walk a0 w0 a1 w1 W hsz hsh hlaid).mono fun e W' ⟨he, hb⟩ => ?_
  subst he
  exact ⟨_, rfl, law_post Tryd.laidOut (by kernel_rfl) rfl rfl Tryd.underlying4 hW' rfl hb⟩

/-- a table's datum as cells -/
def zxidTexts_lit : DataW Unit → Value
  | .lit (.int k n) => .int k n
  | .lit (.bool b) => .bool b
  | _ => .nilIface
def zxidTexts_cells : DataW Unit → List Value
  | .agg l => l.flatMap fun d => match d with
    | .agg l => l.map zxidTexts_lit
    | d => [zxidTexts_lit d]
  | d => [zxidTexts_lit d]
def zxidTexts_put (d : DataW Unit) : Obj → Obj
  | .cells _ t frozen => .cells (zxidTexts_cells d).toArray t frozen
  | x => x
def zxidTexts_set (cs : Array Value) : Obj → Obj
  | .cells _ t frozen => .cells cs t frozen
  | x => x
noncomputable def zxidTexts_heap (os : Os) : Array Obj := ((((World.holding Tryd.prog os ⟨#[], #[], []⟩).heap.modify 3 (zxidTexts_put Rows.laid_math_bits_deBruijn32tab)).modify 4 (zxidTexts_put Rows.laid_math_bits_deBruijn64tab)).modify 2 (zxidTexts_put Rows.laid_internal_strconv_uint64pow10))
noncomputable def zxidTexts_world (os : Os) : World := { World.holding Tryd.prog os ⟨#[], #[], []⟩ with heap := ((((zxidTexts_heap os).modify 1 (zxidTexts_set #[.iface 76 (.pointer (some ⟨(zxidTexts_heap os).size + 0, 0, none⟩))])).modify 0 (zxidTexts_set #[.iface 76 (.pointer (some ⟨(zxidTexts_heap os).size + 1, 0, none⟩))])).push (.cells #[.string ⟨#[118, 97, 108, 117, 101, 32, 111, 117, 116, 32, 111, 102, 32, 114, 97, 110, 103, 101]⟩] 78)).push (.cells #[.string ⟨#[105, 110, 118, 97, 108, 105, 100, 32, 115, 121, 110, 116, 97, 120]⟩] 78) }
theorem zxidTexts_laid_met (os : Os) : laidMet Tryd.prog Rows.zxidTextsRow.laid ((zxidTexts_world os).forCall (fun _ _ => 0) ⟨#[], #[.int .i64 0, .string .empty], []⟩).memory :=
  laidMet_of_run' 8 (by kernel_rfl) (by kernel_rfl)
theorem zxidTexts_reads (os : Os) {H : Type} (enc : TypeId × Value → H) : ∃ places, DataW.whole enc Tryd.prog ((zxidTexts_world os).forCall (fun _ _ => 0) ⟨#[], #[.int .i64 0, .string .empty], []⟩).memory Tryd.f3.params.toList Rows.zxidTextsSpec.vars false (#[.int .i64 0, .string .empty] : Array Value).toList 8 = some ([.lit (.int .i64 0), .lit (.string [])], [], places) :=
  ⟨[], by kernel_rfl⟩
set_option maxRecDepth 100000 in
theorem zxidTexts_lifted (os : Os) (started : os.Started) (H : Type) (enc : TypeId × Value → H) (F : Stop.Interp) :
    ReturnsInHanded {} Tryd.checked os 3 .any ((OpenSpec.ofChange Rows.zxidTextsSpec).preRow enc Tryd.prog Tryd.f3 Rows.zxidTextsRow.domain false Rows.zxidTextsRow.laid) (((OpenSpec.ofChange Rows.zxidTextsSpec).at F).post enc Tryd.prog Tryd.f3 false true false false) := by
  obtain ⟨places, hx⟩ := zxidTexts_reads os enc
  refine returnsInHanded_of_row (C := Tryd.checked) (s := OpenSpec.ofChange Rows.zxidTextsSpec) Tryd.own started (by kernel_rfl) Tryd.func3
    (witness_row_at (enc := enc) (C := Tryd.checked) false (zxidTexts_world os) #[.int .i64 0, .string .empty] rfl (by kernel_rfl) (by kernel_rfl) (by kernel_rfl)
      (OpenSpec.preRow_of_cond 8 hx (by kernel_rfl) (fun k hk => by cases hk) (by kernel_rfl) (zxidTexts_laid_met os))) ?_
  intro W base args ds gs before hval hW _ _ hsz hlaid hsh _
  exact zxidTexts_contract H enc W base args ds gs before hval hW hlaid hsh hsz
theorem zxidTexts_said : Rows.ZxidTextsSaid :=
  OpenClaim.holds_of_cond 3 Tryd.f3 rfl rfl rfl rfl rfl rfl rfl ⟨rfl, rfl, rfl, rfl, rfl⟩ rfl rfl rfl rfl rfl (by kernel_rfl) Tryd.func3 (by kernel_rfl)
    (of_decide_eq_true (by kernel_rfl)) (by unfold Func.isWrapper; first | (rw [if_pos (by decide +kernel)]; kernel_rfl) | (rw [if_neg (by decide +kernel)]; exact ⟨rfl, rfl⟩))
    (fun os started H enc _ F => by rw [OpenClaim.pre_eq_preRow]; exact zxidTexts_lifted os started H enc F)
theorem zxidTexts_plain (f : FuncId) (fn : Func) (hf : Tryd.pinned.checked.prog.funcNamed "arbor/arborlaw20.ZxidTexts" = some f) (hfn : Tryd.pinned.checked.prog.funcs[f]? = some fn) :
    true = Tryd.pinned.checked.prog.looks [] ∧ ∀ (j : Nat) t, fn.params[j]? = some t → Tryd.pinned.checked.prog.wantsStandIn t = false := by
  obtain rfl : f = 3 := Option.some.inj ((show Tryd.prog.funcNamed "arbor/arborlaw20.ZxidTexts" = some 3 by kernel_rfl).symm.trans hf) |>.symm
  obtain rfl : fn = Tryd.f3 := (Option.some.inj (Tryd.func3.symm.trans hfn)).symm
  refine ⟨by kernel_rfl, fun j t ht => ?_⟩
  rw [Tryd.params3] at ht
  have hm : t ∈ [2, 9] := by simpa using Array.mem_of_getElem? ht
  have hall : (([2, 9] : List TypeId).all fun u => !Tryd.prog.wantsStandIn u) = true := by kernel_rfl
  exact (show Tryd.prog.wantsStandIn t = false by simpa using List.all_eq_true.1 hall t hm)
theorem zxidTexts_card : Rows.ZxidTextsCardSaid :=
  Claim7.holds_tied_plain_at .later [] _ _ _ _ zxidTexts_said (fun _ h => by cases h) (by kernel_rfl) (fun _ h => by cases h) zxidTexts_row_tie rfl ⟨rfl, rfl⟩ (by kernel_rfl) rfl zxidTexts_plain (by kernel_rfl)
end Go.Proofs.YtgbifmcdkigbgaaDoor
