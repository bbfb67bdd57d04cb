/- Texts as values: plain Lean. -/
import Derived.Test.YtfpcgjgkbniofaaGreatDoorDecimal
import Derived.Test.YtfpcgjgkbniofaaGreatDoorMem
namespace Go.Proofs.YtfpcgjgkbniofaaGreatDoor
open Go.RowKit

def sv (t : Tx) : Value := .string ⟨t.toArray⟩
theorem ba_app (a b : Tx) : (⟨a.toArray⟩ : ByteArray) ++ ⟨b.toArray⟩ = ⟨(a ++ b).toArray⟩ := by
  apply ByteArray.ext
  rw [ByteArray.data_append]
  simp
theorem ba_sub (l : Tx) (i j : Nat) : (⟨l.toArray⟩ : ByteArray).extract i j = ⟨((l.take j).drop i).toArray⟩ := by
  apply ByteArray.ext
  rw [ByteArray.data_extract]
  show l.toArray.extract i j = _
  rw [List.extract_toArray, List.extract_eq_take_drop]
  congr 1
  by_cases h : i ≤ j
  · rw [List.take_drop, show i + (j - i) = j by omega]
  · rw [show j - i = 0 by omega, List.drop_of_length_le (l := l.take j) (by rw [List.length_take]; omega)]
    rfl

end Go.Proofs.YtfpcgjgkbniofaaGreatDoor
