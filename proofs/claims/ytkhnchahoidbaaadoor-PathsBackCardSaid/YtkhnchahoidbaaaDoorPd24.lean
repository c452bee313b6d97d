/- The world that the row lists; the law PathsSplits: the walk. -/
import Derived.Test.YtkhnchahoidbaaaDoorPd23
import Derived.Stop.LaidErr
import Derived.LaidLaws
import Derived.Test.YtkhnchahoidbaaaDoorCards
namespace Go.Proofs.YtkhnchahoidbaaaDoor
open Go.RowKit

theorem err_star : "*" ++ "errors.errorString" = "*errors.errorString" := by decide
theorem err_row (u : TypeId) (h : Tryd.prog.typeName? 3 u = some "*errors.errorString") : u = 119 :=
  typeName_ptr_named (nm := "errors.errorString") (by rw [err_star]; kernel_rfl) (by kernel_rfl) (by decide) u (by rw [err_star]; exact h)

theorem env_of {l : List (String × DataW Unit)} {W : World} (hl : laidMetH Tryd.prog l W) (hsh : W.ShapedOpen Tryd.prog)
    (e1 : l.filter (fun x => x.1 == "internal/strconv.uint64pow10") = [("internal/strconv.uint64pow10", Rows.laid_internal_strconv_uint64pow10)])
    (e2 : l.filter (fun x => x.1 == "strconv.ErrSyntax") = [("strconv.ErrSyntax", Rows.laid_strconv_ErrSyntax)])
    (e3 : l.filter (fun x => x.1 == "strconv.ErrRange") = [("strconv.ErrRange", Rows.laid_strconv_ErrRange)]) : Env W := by
  have h1 := hl.filter (fun x => x.1 == "internal/strconv.uint64pow10")
  have h2 := hl.filter (fun x => x.1 == "strconv.ErrSyntax")
  have h3 := hl.filter (fun x => x.1 == "strconv.ErrRange")
  rw [e1] at h1
  rw [e2] at h2
  rw [e3] at h3
  have ht : Lib.TabIs Tryd.prog W "internal/strconv.uint64pow10" .u64 Lib.pow10Tab :=
    Lib.tabIs_of_head (rest := []) (g := 1) (by kernel_rfl) (by kernel_rfl) Tryd.underlying104 Tryd.underlying82 (by kernel_rfl) (by kernel_rfl) h1
  have g2 : Tryd.prog.globalNamed "strconv.ErrSyntax" = some 2 := by kernel_rfl
  have g3 : Tryd.prog.globalNamed "strconv.ErrRange" = some 3 := by kernel_rfl
  obtain ⟨a2, s2, hv2, _⟩ := laid_sentinel (r := []) h2 g2 (by kernel_rfl) Tryd.underlying54 err_row Tryd.underlying119 Tryd.underlying121 rfl rfl Tryd.underlying9 (by kernel_rfl) (by kernel_rfl)
  obtain ⟨a3, s3, hv3, _⟩ := laid_sentinel (r := []) h3 g3 (by kernel_rfl) Tryd.underlying54 err_row Tryd.underlying119 Tryd.underlying121 rfl rfl Tryd.underlying9 (by kernel_rfl) (by kernel_rfl)
  have hc2 : W.cell? ⟨2, 0, none⟩ = some (.iface 119 (.pointer (some a2))) := by simpa using World.var?_cell g2 hv2 0
  have hc3 : W.cell? ⟨3, 0, none⟩ = some (.iface 119 (.pointer (some a3))) := by simpa using World.var?_cell g3 hv3 0
  exact ⟨Tryd.laysM145.s1_3 W hsh, ⟨_, hc2, .inr ⟨_, _, rfl⟩⟩, ⟨_, hc3, .inr ⟨_, _, rfl⟩⟩, cell_lt hc3, Lib.tabBelow_of_tabIs ht⟩

set_option maxRecDepth 100000 in
set_option maxHeartbeats 1000000 in
theorem splits_law (p : ByteArray) (hp : p.size ≤ 140737488355327) {w : World} (hE : Env w) :
    Calls Tryd.prog 5 #[.string p] w fun e w' => e = .returned (.bool true) ∧ Below w.heap.size w w' := by
  have H1 := Lib.hid (e_split hE (Below.refl _ _) p hp)
  have H2 := Lib.hid (fun W => rsplit_any p hp W)
  have H3 : Hid (∀ W, Below w.heap.size w W → Calls Tryd.prog 25 #[] W fun e w' => e = .returned (.bool true) ∧ Below w.heap.size w w') := fun W hB => (alive_any (hE.on hB)).mono fun _ _ ⟨he, hb⟩ => ⟨he, hB.trans (hb.mono hB.size)⟩
  clear hE
  generalize splT p = sT at H1 H2
  generalize splV p = sV at H1 H2
  generalize splB p = sB at H1 H2
  go_enter Tryd.func5, Tryd.ntmps5
  go_wp2_with (first
    | (go_at_call 23; refine H1.out.mono ?_; rintro e w1 ⟨rfl, hb1⟩)
    | (go_at_call 24; refine (H2.out _).mono ?_; rintro e w2 ⟨rfl, n2, rfl⟩)
    | (go_at_call 25; refine (H3.out _ (below_drewN' hb1 _)).mono ?_; rintro e w3 ⟨rfl, hb3⟩))
  go_ret
  exact ⟨rfl, hb3⟩

theorem pathsSplits_walk {H : Type} (p : ByteArray) (_ : p.size ≤ maxLen) (W : World) (hsz : (DataW.weightsEach Tryd.prog ([9] : List TypeId) ([DataW.lit (.string p.data.toList)] : List (DataW H))).all (· ≤ reachBytes) = true) (hsh : W.ShapedOpen Tryd.prog)
    (hlaid : laidMetH Tryd.prog Rows.pathsSplitsRow.laid W) :
    Calls Tryd.prog 5 #[.string p] W fun e w' => e = .returned (.bool true) ∧ Below W.heap.size W w' := by
  have h := sized_string (j := 0) hsz rfl rfl
  rw [← Lib.size_eq] at h
  unfold reachBytes at h
  exact splits_law p (by omega) (env_of hlaid hsh rfl rfl rfl)
end Go.Proofs.YtkhnchahoidbaaaDoor
