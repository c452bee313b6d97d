/- The statement of ReplyNames, closed from its walk: whatever the input, the law returns true and each argument reads as it read. -/
import Derived.Test.YtnbaajplelchjaaGreatDoorLaw
import Derived.Test.YtnbaajplelchjaaGreatDoorRn5
import Derived.Test.YtnbaajplelchjaaGreatDoorCards
import Derived.Test.YtnbaajplelchjaaGreatDoorTie
import Derived.ProofKit
import Derived.OpenShut
import Derived.SizedLaws
import Derived.Deep.DeepHandedRow
set_option linter.unusedVariables false
set_option linter.unusedSimpArgs false
namespace Go.Proofs.YtnbaajplelchjaaGreatDoor
open Go.ChangeShapes Go.WideShapes Go.ChangeAt Go.RowKit
open Go.ChangeMaps (open_string shut_string)

set_option linter.unusedVariables false in
set_option maxRecDepth 100000 in
theorem replyNames_contract (H : Type) (enc : TypeId × Value → H) (W : World) (base : Nat) (args : Array Value) (ds gs : List (DataW H)) (before : List MemPlace)
    (hval0 : ∀ (j : Nat) t v, Tryz.f7.params[j]? = some t → args[j]? = some v → Value.okWide Tryz.prog W .any base t v)
    (hW : DataW.Whole enc Tryz.prog Tryz.f7.params.toList Rows.replyNamesSpec.vars false W args.toList ds gs before)
    (hlaid : laidMetH Tryz.prog Rows.replyNamesRow.laid W)
    (hsh : W.ShapedOpen Tryz.prog)
    (hsz0 : (DataW.weightsEach Tryz.prog (Tryz.f7.params.toList ++ Rows.replyNamesSpec.plain.varTypes Tryz.prog) (ds ++ gs)).all (· ≤ reachBytes) = true) :
    Calls Tryz.prog 7 args W fun e W' => ∃ v, e = .returned v ∧ Rows.replyNamesSpec.post enc Tryz.prog Tryz.f7 false true false false W args v W' := by
  have hW' := hW
  obtain ⟨p, q, hA0, hV, rfl, hfz, hnd⟩ := hW
  have hA : DataW.TrodAll enc Tryz.prog W 0 (fun _ => true) true Tryz.f7.params.toList args.toList ds p := hA0
  have hval : ∀ (j : Nat) t v, Tryz.f7.params[j]? = some t → args[j]? = some v → Value.okWide Tryz.prog W .any base t v := hval0
  rw [Tryz.params7] at hA hval
  obtain ⟨v0, vs0, d0, ds0, p0, q0, hargs, rfl, rfl, h0, r0⟩ := trodAll_cons hA
  obtain ⟨v1, vs1, d1, ds1, p1, q1, rfl, rfl, rfl, h1, r1⟩ := trodAll_cons r0
  obtain ⟨rfl, rfl, rfl⟩ := trodAll_nil r1
  obtain rfl : args = #[v0, v1] := by cases args; simp_all
  obtain ⟨rfl, rfl⟩ := trodVars_none hV
  obtain ⟨a0, rfl, rfl, rfl, w0⟩ := open_int Tryz.underlying22 (hval 0 22 v0 rfl rfl) h0
  obtain ⟨a1, rfl, rfl, rfl, w1⟩ := open_string Tryz.underlying9 (hval 1 9 v1 rfl rfl) h1
  have hsz : (DataW.weightsEach Tryz.prog ([22, 9] : List TypeId) ([DataW.lit (.int .i32 a0), DataW.lit (.string a1.data.toList)] : List (DataW H))).all (· ≤ reachBytes) = true := by
    rw [Tryz.params7] at hsz0; exact hsz0
  refine (replyNames_walk a0 w0 a1 w1 W hsz hsh hlaid).mono fun e W' ⟨he, hb⟩ => ?_
  subst he
  exact ⟨_, rfl, law_post Tryz.laidOut (by kernel_rfl) rfl rfl Tryz.underlying4 hW' rfl hb⟩

/-- a table's datum as cells -/
def replyNames_lit : DataW Unit → Value
  | .lit (.int k n) => .int k n
  | .lit (.bool b) => .bool b
  | _ => .nilIface
def replyNames_cells : DataW Unit → List Value
  | .agg l => l.flatMap fun d => match d with
    | .agg l => l.map replyNames_lit
    | d => [replyNames_lit d]
  | d => [replyNames_lit d]
def replyNames_put (d : DataW Unit) : Obj → Obj
  | .cells _ t frozen => .cells (replyNames_cells d).toArray t frozen
  | x => x
def replyNames_set (cs : Array Value) : Obj → Obj
  | .cells _ t frozen => .cells cs t frozen
  | x => x
noncomputable def replyNames_heap (os : Os) : Array Obj := ((((((World.holding Tryz.prog os ⟨#[], #[], []⟩).heap.modify 5 (replyNames_put Rows.laid_math_bits_deBruijn32tab)).modify 6 (replyNames_put Rows.laid_math_bits_deBruijn64tab)).modify 4 (replyNames_put Rows.laid_internal_strconv_uint64pow10)).modify 1 (replyNames_put Rows.laid_unicode_utf8_acceptRanges)).modify 0 (replyNames_put Rows.laid_unicode_utf8_first))
noncomputable def replyNames_world (os : Os) : World := { World.holding Tryz.prog os ⟨#[], #[], []⟩ with heap := ((((replyNames_heap os).modify 3 (replyNames_set #[.iface 224 (.pointer (some ⟨(replyNames_heap os).size + 0, 0, none⟩))])).modify 2 (replyNames_set #[.iface 224 (.pointer (some ⟨(replyNames_heap os).size + 1, 0, none⟩))])).push (.cells #[.string ⟨#[118, 97, 108, 117, 101, 32, 111, 117, 116, 32, 111, 102, 32, 114, 97, 110, 103, 101]⟩] 226)).push (.cells #[.string ⟨#[105, 110, 118, 97, 108, 105, 100, 32, 115, 121, 110, 116, 97, 120]⟩] 226) }
theorem replyNames_laid_met (os : Os) : laidMet Tryz.prog Rows.replyNamesRow.laid ((replyNames_world os).forCall (fun _ _ => 0) ⟨#[], #[.int .i32 0, .string .empty], []⟩).memory :=
  laidMet_of_run' 8 (by kernel_rfl) (by kernel_rfl)
theorem replyNames_reads (os : Os) {H : Type} (enc : TypeId × Value → H) : ∃ places, DataW.whole enc Tryz.prog ((replyNames_world os).forCall (fun _ _ => 0) ⟨#[], #[.int .i32 0, .string .empty], []⟩).memory Tryz.f7.params.toList Rows.replyNamesSpec.vars false (#[.int .i32 0, .string .empty] : Array Value).toList 8 = some ([.lit (.int .i32 0), .lit (.string [])], [], places) :=
  ⟨[], by kernel_rfl⟩
set_option maxRecDepth 100000 in
theorem replyNames_lifted (os : Os) (started : os.Started) (H : Type) (enc : TypeId × Value → H) (F : Stop.Interp) :
    ReturnsInHanded {} Tryz.checked os 7 .any ((OpenSpec.ofChange Rows.replyNamesSpec).preRow enc Tryz.prog Tryz.f7 Rows.replyNamesRow.domain false Rows.replyNamesRow.laid) (((OpenSpec.ofChange Rows.replyNamesSpec).at F).post enc Tryz.prog Tryz.f7 false true false false) := by
  obtain ⟨places, hx⟩ := replyNames_reads os enc
  refine returnsInHanded_of_row (C := Tryz.checked) (s := OpenSpec.ofChange Rows.replyNamesSpec) Tryz.own started (by kernel_rfl) Tryz.func7
    (witness_row_at (enc := enc) (C := Tryz.checked) false (replyNames_world os) #[.int .i32 0, .string .empty] rfl (by kernel_rfl) (by kernel_rfl) (by kernel_rfl)
      (OpenSpec.preRow_of_cond 8 hx (by kernel_rfl) (fun k hk => by cases hk) (by kernel_rfl) (replyNames_laid_met os))) ?_
  intro W base args ds gs before hval hW _ _ hsz hlaid hsh _
  exact replyNames_contract H enc W base args ds gs before hval hW hlaid hsh hsz
theorem replyNames_said : Rows.ReplyNamesSaid :=
  OpenClaim.holds_of_cond 7 Tryz.f7 rfl rfl rfl rfl rfl rfl rfl ⟨rfl, rfl, rfl, rfl, rfl⟩ rfl rfl rfl rfl rfl (by kernel_rfl) Tryz.func7 (by kernel_rfl)
    (of_decide_eq_true (by kernel_rfl)) (by unfold Func.isWrapper; first | (rw [if_pos (by decide +kernel)]; kernel_rfl) | (rw [if_neg (by decide +kernel)]; exact ⟨rfl, rfl⟩))
    (fun os started H enc _ F => by rw [OpenClaim.pre_eq_preRow]; exact replyNames_lifted os started H enc F)
theorem replyNames_plain (f : FuncId) (fn : Func) (hf : Tryz.pinned.checked.prog.funcNamed "arbor/arborlaw12.ReplyNames" = some f) (hfn : Tryz.pinned.checked.prog.funcs[f]? = some fn) :
    true = Tryz.pinned.checked.prog.looks [] ∧ ∀ (j : Nat) t, fn.params[j]? = some t → Tryz.pinned.checked.prog.wantsStandIn t = false := by
  obtain rfl : f = 7 := Option.some.inj ((show Tryz.prog.funcNamed "arbor/arborlaw12.ReplyNames" = some 7 by kernel_rfl).symm.trans hf) |>.symm
  obtain rfl : fn = Tryz.f7 := (Option.some.inj (Tryz.func7.symm.trans hfn)).symm
  refine ⟨by kernel_rfl, fun j t ht => ?_⟩
  rw [Tryz.params7] at ht
  have hm : t ∈ [22, 9] := by simpa using Array.mem_of_getElem? ht
  have hall : (([22, 9] : List TypeId).all fun u => !Tryz.prog.wantsStandIn u) = true := by kernel_rfl
  exact (show Tryz.prog.wantsStandIn t = false by simpa using List.all_eq_true.1 hall t hm)
theorem replyNames_card : Rows.ReplyNamesCardSaid :=
  Claim7.holds_tied_plain_at .later [] _ _ _ _ replyNames_said (fun _ h => by cases h) (by kernel_rfl) (fun _ h => by cases h) replyNames_row_tie rfl ⟨rfl, rfl⟩ (by kernel_rfl) rfl replyNames_plain (by kernel_rfl)
end Go.Proofs.YtnbaajplelchjaaGreatDoor
