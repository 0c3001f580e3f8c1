/-
  The generic functions over lists of int64.
-/
import Derived.Test.YtfbafdnjjfmhjaaInts

namespace Go.Proofs.Ytfbafdnjjfmhjaa
open Go.RowKit





set_option maxHeartbeats 400000 in
set_option maxRecDepth 100000 in
theorem countInts (A : Option Addr) (n cap : Nat) (w : World) (_hlen : n ≤ 9223372036854775807) :
    Calls Try.prog 87 #[.slice A n cap] w fun e w' => e = .returned (.int .i64 n) ∧ w = w' := by
  go_enter Try.func87, Try.ntmps87
  go_wp2
  go_ret
  exact ⟨rfl, rfl⟩


end Go.Proofs.Ytfbafdnjjfmhjaa
