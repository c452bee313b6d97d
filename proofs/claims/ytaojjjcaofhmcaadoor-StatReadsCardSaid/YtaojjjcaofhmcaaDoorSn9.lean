/- StatRights: the nodes as they were read; the walk at them. -/
import Derived.Test.YtaojjjcaofhmcaaDoorSn8
import Derived.Test.YtaojjjcaofhmcaaDoorSno
set_option linter.unusedVariables false
set_option linter.unusedSimpArgs false
namespace Go.Proofs.YtaojjjcaofhmcaaDoor
open Go.ChangeShapes Go.WideShapes Go.ChangeAt Go.RowKit

theorem envS_of {l : List (String × DataW Unit)} {W : World} (h : laidMetH Tryd.prog l W) (hp : (l.all fun x => x.2.handleName?.isNone) = true) (m1 : ("unicode/utf8.first", Rows.laid_unicode_utf8_first) ∈ l) (m2 : ("unicode/utf8.acceptRanges", Rows.laid_unicode_utf8_acceptRanges) ∈ l) (hsh : W.ShapedOpen Tryd.prog) : EnvS W := by
  obtain ⟨m, hm⟩ := Tryd.laysM145.s1_3 W hsh
  exact ⟨env_of h hp m1 m2, ⟨m, hm⟩, cell_lt hm⟩

set_option maxRecDepth 100000 in
theorem statRights_walk {H : Type} (enc : TypeId × Value → H) (base : Nat) (W : World) (v0 : Value) (d0 : DataW H) (p0 : List MemPlace) (hv0 : Value.okWide Tryd.prog W .any base 32 v0) (h0 : DataW.Trod enc Tryd.prog W 0 (fun _ => true) true 32 v0 d0 p0)
    (v1 : Value) (d1 : DataW H) (p1 : List MemPlace) (hv1 : Value.okWide Tryd.prog W .any base 32 v1) (h1 : DataW.Trod enc Tryd.prog W 0 (fun _ => true) true 32 v1 d1 p1)
    (hsz : (DataW.weightsEach Tryd.prog ([32, 32] : List TypeId) ([d0, d1] : List (DataW H))).all (· ≤ reachBytes) = true) (hsh : W.ShapedOpen Tryd.prog) (hlaid : laidMetH Tryd.prog Rows.statRightsRow.laid W) :
    Calls Tryd.prog 4 #[v0, v1] W fun e w' => e = .returned (.bool true) ∧ Below W.heap.size W w' := by
  have hE : EnvS W := envS_of hlaid (by kernel_rfl) (by simp [Rows.statRightsRow]) (by simp [Rows.statRightsRow]) hsh
  obtain ⟨p, dA, dn, dc, aA, an, ac, l, L, o, cz, mz, pz, az, qz, ct, mt, ve, cr, av, qh, qc, qb, hcs, _, _, _, e2, e3, _, e5, e6, e7, e8, _⟩ := node_open (rd_of 0 h0 hsz rfl rfl)
  obtain ⟨p', dA', dn', dc', aA', an', ac', l', L', o', cz', mz', pz', az', qz', ct', mt', ve', cr', av', qh', qc', qb', hcs', _, _, _, f2, f3, _, _, _, f7, f8, _⟩ := node_open (rd_of 1 h1 hsz rfl rfl)
  rw [node_arg hv0 hcs, node_arg hv1 hcs']
  have hf : ∀ a ∈ L, aclFit a := fun a ha => by
    obtain ⟨_, h1, h2⟩ := e6 a ha
    unfold reachBytes at h1 h2
    exact ⟨by omega, by omega⟩
  unfold reachBytes at e2 e3 f2 f3
  exact rights_walk p o cz mz pz az qz ct mt ve cr av qh qc qb dA dn dc aA an ac l L p' o' cz' mz' pz' az' qz' ct' mt' ve' cr' av' qh' qc' qb' dA' dn' dc' aA' an' ac' l' L' W e7 e8 (by omega) (by omega) hf hE f7 f8 (by omega)
end Go.Proofs.YtaojjjcaofhmcaaDoor
