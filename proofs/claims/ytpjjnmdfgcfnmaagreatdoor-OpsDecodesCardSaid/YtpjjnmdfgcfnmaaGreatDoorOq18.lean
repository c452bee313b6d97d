/- the writers of lists: jute.List, acl.Put, acl.PutIds. (printed by gen_p18.py) -/
import Derived.Test.YtpjjnmdfgcfnmaaGreatDoorOqa
import Derived.Test.YtpjjnmdfgcfnmaaGreatDoorOqb
import Derived.Test.YtpjjnmdfgcfnmaaGreatDoorOqd
import Derived.Test.YtpjjnmdfgcfnmaaGreatDoorJw
set_option linter.unusedVariables false
set_option linter.unusedSimpArgs false
namespace Go.Proofs.YtpjjnmdfgcfnmaaGreatDoor
open Go.RowKit

def pIdB (x : ByteArray × ByteArray) : List UInt8 := bBuf x.1.data.toList ++ bBuf x.2.data.toList
def pIdsB (L : List (ByteArray × ByteArray)) : List UInt8 := L.flatMap pIdB
def pAclB (x : AclT) : List UInt8 := bInt x.1 ++ pIdB x.2
def pAclsB (L : List AclT) : List UInt8 := L.flatMap pAclB
theorem pIdB_len (x : ByteArray × ByteArray) : (pIdB x).length = 8 + x.1.size + x.2.size := by
  unfold pIdB
  rw [List.length_append, bBuf_len, bBuf_len, ← bsize_eq, ← bsize_eq]
  omega
theorem pAclB_len (x : AclT) : (pAclB x).length = 12 + x.2.1.size + x.2.2.size := by
  unfold pAclB
  rw [List.length_append, bInt_len, pIdB_len]
  omega
theorem strCells_eq (L : List ByteArray) : strCells L = scells L := by
  unfold strCells scells
  induction L with
  | nil => rfl
  | cons x r ih => rw [List.flatMap_cons, List.map_cons, ih]; rfl
end Go.Proofs.YtpjjnmdfgcfnmaaGreatDoor
