/-
  strings.Compare, and the order of strings.
-/
import Derived.Test.YtfbafdnjjfmhjaaMore
import Derived.Test.YtfbafdnjjfmhjaaDays
import Derived.Lib.Strings
import Derived.Lib.Slices
import Derived.Lib.Walk
import Derived.Lib.Bytealg
import Derived.Laws.Cover1
namespace Go.Proofs.Ytfbafdnjjfmhjaa
open Go.RowKit

def sCmp (a b : ByteArray) : Int := Lib.compareBytes a.data.toList b.data.toList
def sLt (a b : ByteArray) : Bool := Op.bytesLess a.toList b.toList
theorem cmp_lt : ∀ (a b : List UInt8), decide (Lib.compareBytes a b < 0) = Op.bytesLess a b
  | [], [] => rfl
  | [], _ :: _ => rfl
  | _ :: _, [] => rfl
  | a :: x, b :: y => by
    have ih := cmp_lt x y
    rw [Lib.compareBytes, Op.bytesLess]
    by_cases h : a < b
    · simp [h]
    · by_cases h2 : b < a
      · have hne : ¬ a = b := fun e => by subst e; exact h h2
        simp [h, h2, hne]
      · have e : a = b := UInt8.le_antisymm (UInt8.not_lt.1 h2) (UInt8.not_lt.1 h)
        subst e
        simp [ih]
theorem sCmp_lt (a b : ByteArray) : decide (sCmp a b < 0) = sLt a b := by
  rw [sCmp, sLt, cmp_lt, ByteArray.toList_eq, ByteArray.toList_eq]

set_option maxHeartbeats 1000000 in
set_option maxRecDepth 100000 in
theorem compareString_any (a b : ByteArray) (w : World) :
    Calls Try.prog 139 #[.string a, .string b] w fun e w' => e = .returned (.int .i64 (sCmp a b)) ∧ w = w' := by
  go_enter Try.func139, Try.ntmps139
  go_wp2
  rw [Go.run_callFunc_extern Try.func145 (by kernel_rfl) (by kernel_rfl) (by kernel_rfl) (e := Extern.BytealgCompare.compare) (by kernel_rfl), Lib.run_compareString]
  simp only [Result.andThen]
  rw [Oper.upon_value]
  go_wp2
  go_ret
  exact ⟨rfl, rfl⟩
set_option maxHeartbeats 1000000 in
theorem compare_any (a b : ByteArray) (w : World) :
    Calls Try.prog 129 #[.string a, .string b] w fun e w' => e = .returned (.int .i64 (sCmp a b)) ∧ w = w' := by
  go_enter Try.func129, Try.ntmps129
  go_wp2_with fail
  refine (compareString_any _ _ _).mono ?_
  rintro e w' ⟨rfl, rfl⟩
  go_wp2
  go_ret
  exact ⟨rfl, rfl⟩
end Go.Proofs.Ytfbafdnjjfmhjaa
