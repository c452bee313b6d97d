/- ops.Get, ops.Decode, of any bytes. -/
import Derived.Test.YtpjjnmdfgcfnmaaGreatDoorOq29
import Derived.Test.YtpjjnmdfgcfnmaaGreatDoorOqp
set_option linter.unusedVariables false
set_option linter.unusedSimpArgs false
namespace Go.Proofs.YtpjjnmdfgcfnmaaGreatDoor
open Go.RowKit

theorem get_allT (t : Int) (n : Nat) : GetT t n := fun B R c p C A l k w => get_all n B R c p C A l t k w
theorem opDecode_any (c n : Nat) (A : Option Addr) (l : List UInt8) (w : World) (hr : Reads w w.heap.size 1 A n (bcells l)) (hnc : n ≤ c) (hn : n ≤ 140737488355328) (hnil : A = none → c = 0) (hE : Env w) :
    Calls Tryz.prog 27 #[.slice A n c] w fun e w' => Decoded l w e w' := opDecode_of c n A l w (fun _ _ t _ _ _ => get_allT t _) hr hnc hn hnil hE
end Go.Proofs.YtpjjnmdfgcfnmaaGreatDoor
