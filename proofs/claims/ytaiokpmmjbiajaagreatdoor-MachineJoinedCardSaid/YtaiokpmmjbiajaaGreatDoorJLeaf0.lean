/- A part of the proof of this claim. No condition beyond those that each theorem names. -/
import Derived.Test.YtaiokpmmjbiajaaGreatDoorJPLeafx2
import Derived.Lib.ValidLaws
import Derived.Lib.MapLaws
import Derived.Lib.TrimUEq
import Derived.DataShut
import Derived.WideShapes
namespace Go.Proofs.YtaiokpmmjbiajaaGreatDoor.Pure
set_option linter.unusedSimpArgs false
set_option linter.unusedVariables false
set_option maxRecDepth 4000
open Go.RowKit Go.Proofs.YtaiokpmmjbiajaaGreatDoor.PLeaf Go.Proofs.YtaiokpmmjbiajaaGreatDoorW.PrintWords
open Go.WideShapes (bytes_inj)
theorem wr {n : Int} (h1 : -4611686018427387904 ≤ n) (h2 : n < 4611686018427387904) : wrap64 n = n := by unfold wrap64; omega
theorem bt_at (s : ByteArray) (i j : Nat) (h : i + j < s.size) : bt s ((i : Int) + (j : Int)) = (((s.data.toList.drop i).getD j 0).toNat : Int) := by
 unfold bt
 have e : ((i : Int) + (j : Int)).toNat = i + j := by omega
 rw [dif_pos (by omega)]
 have h' : i + j < s.data.toList.length := by rw [data_length]; exact h
 simp only [e, List.getD, List.getElem?_drop, List.getElem?_eq_getElem h', Option.getD_some]
 rfl
theorem kinds (k : Int) : k = 0 ∨ k = 1 ∨ k = 2 ∨ k = 3 ∨ k = 4 ∨ (¬ k = 0 ∧ ¬ k = 1 ∧ ¬ k = 2 ∧ ¬ k = 3 ∧ ¬ k = 4) := by omega
end Go.Proofs.YtaiokpmmjbiajaaGreatDoor.Pure
