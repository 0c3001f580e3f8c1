/-
  A clause and an event: matches, DoesMatch, WhyNot on both sides.
-/
import Derived.Test.YthhfhdekhgkcaaaClauseFn
import Derived.Test.YthhfhdekhgkcaaaEventFn
namespace Go.Proofs.Ythhfhdekhgkcaaa
open Go.RowKit

def met (n : Int) (b : Bool) : Bool := n == 0 || (b == (n == 1))
def matches_ (c : Clause) (e : Event) : Bool := (c.kind == -1 || c.kind == e.kind) && met c.peril e.peril && met c.voluntary e.voluntary && met c.reasonable e.reasonable
def doesMatch (c : Clause) (e : Event) : Bool × Int := if c.okB && e.okB then (matches_ c e, 0) else (false, 1)
def whyNot (c : Clause) (e : Event) : Int × Int :=
  if c.okB && e.okB then (if !(c.kind == -1 || c.kind == e.kind) then (0, 0) else if !met c.peril e.peril then (1, 0) else if !met c.voluntary e.voluntary then (2, 0) else if !met c.reasonable e.reasonable then (3, 0) else (0, 5)) else (0, 1)

set_option maxHeartbeats 400000 in
theorem met_spec (n : Int) (b : Bool) (w : World) : Calls Try.prog 70 #[.int .i64 n, .bool b] w fun e w' => e = .returned (.bool (met n b)) ∧ w = w' := by
  cases h0 : (n == 0)
  · cases h1 : (n == 1)
    all_goals
      cases b
      all_goals
        go_enter Try.func70, Try.ntmps70
        go_wp2
        go_ret
        exact ⟨ret_b (by simp [met, h0, h1]), rfl⟩
  · go_enter Try.func70, Try.ntmps70
    go_wp2
    go_ret
    exact ⟨ret_b (by simp [met, h0]), rfl⟩
set_option maxHeartbeats 400000 in
theorem met_impl (n : Int) (b : Bool) (w : World) : Calls Try.prog 71 #[.int .i64 n, .bool b] w fun e w' => e = .returned (.bool (met n b)) ∧ w = w' := by
  cases h0 : (n == 0)
  · cases h1 : (n == 1)
    all_goals
      cases b
      all_goals
        go_enter Try.func71, Try.ntmps71
        go_wp2
        go_ret
        exact ⟨ret_b (by simp [met, h0, h1]), rfl⟩
  · go_enter Try.func71, Try.ntmps71
    go_wp2
    go_ret
    exact ⟨ret_b (by simp [met, h0]), rfl⟩

set_option maxHeartbeats 8000000 in
set_option maxRecDepth 100000 in
theorem matches_spec (c : Clause) (e : Event) (w : World) :
    Calls Try.prog 67 #[c.val, e.val] w fun e' w' => e' = .returned (.bool (matches_ c e)) ∧ Below w.heap.size w w' := by
  have B := ((Below.refl w.heap.size w).alloc (Nat.le_refl _) (.cells #[.string c.code, .int .i64 c.kind, .int .i64 c.peril, .int .i64 c.voluntary, .int .i64 c.reasonable, .int .i64 c.result, .string c.to] 26)).alloc (by simp) (.cells #[.int .i64 e.day, .int .i64 e.kind, .string e.interest, .int .i64 e.amount, .bool e.peril, .bool e.voluntary, .bool e.reasonable] 34)
  have B2 := (Below.refl (w.alloc (.cells #[.string c.code, .int .i64 c.kind, .int .i64 c.peril, .int .i64 c.voluntary, .int .i64 c.reasonable, .int .i64 c.result, .string c.to] 26)).heap.size (w.alloc (.cells #[.string c.code, .int .i64 c.kind, .int .i64 c.peril, .int .i64 c.voluntary, .int .i64 c.reasonable, .int .i64 c.result, .string c.to] 26))).alloc (Nat.le_refl _) (.cells #[.int .i64 e.day, .int .i64 e.kind, .string e.interest, .int .i64 e.amount, .bool e.peril, .bool e.voluntary, .bool e.reasonable] 34)
  have d0 := below_cell B2 (made_cell w #[.string c.code, .int .i64 c.kind, .int .i64 c.peril, .int .i64 c.voluntary, .int .i64 c.reasonable, .int .i64 c.result, .string c.to] 26 0 (.string c.code) rfl)
  have d1 := below_cell B2 (made_cell w #[.string c.code, .int .i64 c.kind, .int .i64 c.peril, .int .i64 c.voluntary, .int .i64 c.reasonable, .int .i64 c.result, .string c.to] 26 1 (.int .i64 c.kind) rfl)
  have d2 := below_cell B2 (made_cell w #[.string c.code, .int .i64 c.kind, .int .i64 c.peril, .int .i64 c.voluntary, .int .i64 c.reasonable, .int .i64 c.result, .string c.to] 26 2 (.int .i64 c.peril) rfl)
  have d3 := below_cell B2 (made_cell w #[.string c.code, .int .i64 c.kind, .int .i64 c.peril, .int .i64 c.voluntary, .int .i64 c.reasonable, .int .i64 c.result, .string c.to] 26 3 (.int .i64 c.voluntary) rfl)
  have d4 := below_cell B2 (made_cell w #[.string c.code, .int .i64 c.kind, .int .i64 c.peril, .int .i64 c.voluntary, .int .i64 c.reasonable, .int .i64 c.result, .string c.to] 26 4 (.int .i64 c.reasonable) rfl)
  have d5 := below_cell B2 (made_cell w #[.string c.code, .int .i64 c.kind, .int .i64 c.peril, .int .i64 c.voluntary, .int .i64 c.reasonable, .int .i64 c.result, .string c.to] 26 5 (.int .i64 c.result) rfl)
  have d6 := below_cell B2 (made_cell w #[.string c.code, .int .i64 c.kind, .int .i64 c.peril, .int .i64 c.voluntary, .int .i64 c.reasonable, .int .i64 c.result, .string c.to] 26 6 (.string c.to) rfl)
  have e0 := made_cell (w.alloc (.cells #[.string c.code, .int .i64 c.kind, .int .i64 c.peril, .int .i64 c.voluntary, .int .i64 c.reasonable, .int .i64 c.result, .string c.to] 26)) #[.int .i64 e.day, .int .i64 e.kind, .string e.interest, .int .i64 e.amount, .bool e.peril, .bool e.voluntary, .bool e.reasonable] 34 0 (.int .i64 e.day) rfl
  have e1 := made_cell (w.alloc (.cells #[.string c.code, .int .i64 c.kind, .int .i64 c.peril, .int .i64 c.voluntary, .int .i64 c.reasonable, .int .i64 c.result, .string c.to] 26)) #[.int .i64 e.day, .int .i64 e.kind, .string e.interest, .int .i64 e.amount, .bool e.peril, .bool e.voluntary, .bool e.reasonable] 34 1 (.int .i64 e.kind) rfl
  have e2 := made_cell (w.alloc (.cells #[.string c.code, .int .i64 c.kind, .int .i64 c.peril, .int .i64 c.voluntary, .int .i64 c.reasonable, .int .i64 c.result, .string c.to] 26)) #[.int .i64 e.day, .int .i64 e.kind, .string e.interest, .int .i64 e.amount, .bool e.peril, .bool e.voluntary, .bool e.reasonable] 34 2 (.string e.interest) rfl
  have e3 := made_cell (w.alloc (.cells #[.string c.code, .int .i64 c.kind, .int .i64 c.peril, .int .i64 c.voluntary, .int .i64 c.reasonable, .int .i64 c.result, .string c.to] 26)) #[.int .i64 e.day, .int .i64 e.kind, .string e.interest, .int .i64 e.amount, .bool e.peril, .bool e.voluntary, .bool e.reasonable] 34 3 (.int .i64 e.amount) rfl
  have e4 := made_cell (w.alloc (.cells #[.string c.code, .int .i64 c.kind, .int .i64 c.peril, .int .i64 c.voluntary, .int .i64 c.reasonable, .int .i64 c.result, .string c.to] 26)) #[.int .i64 e.day, .int .i64 e.kind, .string e.interest, .int .i64 e.amount, .bool e.peril, .bool e.voluntary, .bool e.reasonable] 34 4 (.bool e.peril) rfl
  have e5 := made_cell (w.alloc (.cells #[.string c.code, .int .i64 c.kind, .int .i64 c.peril, .int .i64 c.voluntary, .int .i64 c.reasonable, .int .i64 c.result, .string c.to] 26)) #[.int .i64 e.day, .int .i64 e.kind, .string e.interest, .int .i64 e.amount, .bool e.peril, .bool e.voluntary, .bool e.reasonable] 34 5 (.bool e.voluntary) rfl
  have e6 := made_cell (w.alloc (.cells #[.string c.code, .int .i64 c.kind, .int .i64 c.peril, .int .i64 c.voluntary, .int .i64 c.reasonable, .int .i64 c.result, .string c.to] 26)) #[.int .i64 e.day, .int .i64 e.kind, .string e.interest, .int .i64 e.amount, .bool e.peril, .bool e.voluntary, .bool e.reasonable] 34 6 (.bool e.reasonable) rfl
  simp only [World.size_alloc] at e0 e1 e2 e3 e4 e5 e6
  clear B2
  go_enter Try.func67, Try.ntmps67
  cases h0 : (c.kind == -1)
  · skip
    cases h1 : (c.kind == e.kind)
    · skip
      go_wp2
      go_ret
      exact ⟨ret_b (by try unfold matches_; simp [*]), B⟩
    · skip
      go_wp2_with fail
      refine (met_spec _ _ _).mono ?_
      rintro e w1 ⟨rfl, rfl⟩
      cases h2 : met c.peril e.peril
      · skip
        go_wp2
        go_ret
        exact ⟨ret_b (by try unfold matches_; simp [*]), B⟩
      · skip
        go_wp2_with fail
        refine (met_spec _ _ _).mono ?_
        rintro e w2 ⟨rfl, rfl⟩
        cases h3 : met c.voluntary e.voluntary
        · skip
          go_wp2
          go_ret
          exact ⟨ret_b (by try unfold matches_; simp [*]), B⟩
        · skip
          go_wp2_with fail
          refine (met_spec _ _ _).mono ?_
          rintro e w3 ⟨rfl, rfl⟩
          cases h4 : met c.reasonable e.reasonable
          · skip
            go_wp2
            go_ret
            exact ⟨ret_b (by try unfold matches_; simp [*]), B⟩
          · skip
            go_wp2
            go_ret
            exact ⟨ret_b (by try unfold matches_; simp [*]), B⟩
  · skip
    go_wp2_with fail
    refine (met_spec _ _ _).mono ?_
    rintro e w1 ⟨rfl, rfl⟩
    cases h1 : met c.peril e.peril
    · skip
      go_wp2
      go_ret
      exact ⟨ret_b (by try unfold matches_; simp [*]), B⟩
    · skip
      go_wp2_with fail
      refine (met_spec _ _ _).mono ?_
      rintro e w2 ⟨rfl, rfl⟩
      cases h2 : met c.voluntary e.voluntary
      · skip
        go_wp2
        go_ret
        exact ⟨ret_b (by try unfold matches_; simp [*]), B⟩
      · skip
        go_wp2_with fail
        refine (met_spec _ _ _).mono ?_
        rintro e w3 ⟨rfl, rfl⟩
        cases h3 : met c.reasonable e.reasonable
        · skip
          go_wp2
          go_ret
          exact ⟨ret_b (by try unfold matches_; simp [*]), B⟩
        · skip
          go_wp2
          go_ret
          exact ⟨ret_b (by try unfold matches_; simp [*]), B⟩

set_option maxHeartbeats 8000000 in
set_option maxRecDepth 100000 in
theorem matches_impl (c : Clause) (e : Event) (w : World) :
    Calls Try.prog 69 #[c.val, e.val] w fun e' w' => e' = .returned (.bool (matches_ c e)) ∧ Below w.heap.size w w' := by
  have B := ((Below.refl w.heap.size w).alloc (Nat.le_refl _) (.cells #[.string c.code, .int .i64 c.kind, .int .i64 c.peril, .int .i64 c.voluntary, .int .i64 c.reasonable, .int .i64 c.result, .string c.to] 26)).alloc (by simp) (.cells #[.int .i64 e.day, .int .i64 e.kind, .string e.interest, .int .i64 e.amount, .bool e.peril, .bool e.voluntary, .bool e.reasonable] 34)
  have B2 := (Below.refl (w.alloc (.cells #[.string c.code, .int .i64 c.kind, .int .i64 c.peril, .int .i64 c.voluntary, .int .i64 c.reasonable, .int .i64 c.result, .string c.to] 26)).heap.size (w.alloc (.cells #[.string c.code, .int .i64 c.kind, .int .i64 c.peril, .int .i64 c.voluntary, .int .i64 c.reasonable, .int .i64 c.result, .string c.to] 26))).alloc (Nat.le_refl _) (.cells #[.int .i64 e.day, .int .i64 e.kind, .string e.interest, .int .i64 e.amount, .bool e.peril, .bool e.voluntary, .bool e.reasonable] 34)
  have d0 := below_cell B2 (made_cell w #[.string c.code, .int .i64 c.kind, .int .i64 c.peril, .int .i64 c.voluntary, .int .i64 c.reasonable, .int .i64 c.result, .string c.to] 26 0 (.string c.code) rfl)
  have d1 := below_cell B2 (made_cell w #[.string c.code, .int .i64 c.kind, .int .i64 c.peril, .int .i64 c.voluntary, .int .i64 c.reasonable, .int .i64 c.result, .string c.to] 26 1 (.int .i64 c.kind) rfl)
  have d2 := below_cell B2 (made_cell w #[.string c.code, .int .i64 c.kind, .int .i64 c.peril, .int .i64 c.voluntary, .int .i64 c.reasonable, .int .i64 c.result, .string c.to] 26 2 (.int .i64 c.peril) rfl)
  have d3 := below_cell B2 (made_cell w #[.string c.code, .int .i64 c.kind, .int .i64 c.peril, .int .i64 c.voluntary, .int .i64 c.reasonable, .int .i64 c.result, .string c.to] 26 3 (.int .i64 c.voluntary) rfl)
  have d4 := below_cell B2 (made_cell w #[.string c.code, .int .i64 c.kind, .int .i64 c.peril, .int .i64 c.voluntary, .int .i64 c.reasonable, .int .i64 c.result, .string c.to] 26 4 (.int .i64 c.reasonable) rfl)
  have d5 := below_cell B2 (made_cell w #[.string c.code, .int .i64 c.kind, .int .i64 c.peril, .int .i64 c.voluntary, .int .i64 c.reasonable, .int .i64 c.result, .string c.to] 26 5 (.int .i64 c.result) rfl)
  have d6 := below_cell B2 (made_cell w #[.string c.code, .int .i64 c.kind, .int .i64 c.peril, .int .i64 c.voluntary, .int .i64 c.reasonable, .int .i64 c.result, .string c.to] 26 6 (.string c.to) rfl)
  have e0 := made_cell (w.alloc (.cells #[.string c.code, .int .i64 c.kind, .int .i64 c.peril, .int .i64 c.voluntary, .int .i64 c.reasonable, .int .i64 c.result, .string c.to] 26)) #[.int .i64 e.day, .int .i64 e.kind, .string e.interest, .int .i64 e.amount, .bool e.peril, .bool e.voluntary, .bool e.reasonable] 34 0 (.int .i64 e.day) rfl
  have e1 := made_cell (w.alloc (.cells #[.string c.code, .int .i64 c.kind, .int .i64 c.peril, .int .i64 c.voluntary, .int .i64 c.reasonable, .int .i64 c.result, .string c.to] 26)) #[.int .i64 e.day, .int .i64 e.kind, .string e.interest, .int .i64 e.amount, .bool e.peril, .bool e.voluntary, .bool e.reasonable] 34 1 (.int .i64 e.kind) rfl
  have e2 := made_cell (w.alloc (.cells #[.string c.code, .int .i64 c.kind, .int .i64 c.peril, .int .i64 c.voluntary, .int .i64 c.reasonable, .int .i64 c.result, .string c.to] 26)) #[.int .i64 e.day, .int .i64 e.kind, .string e.interest, .int .i64 e.amount, .bool e.peril, .bool e.voluntary, .bool e.reasonable] 34 2 (.string e.interest) rfl
  have e3 := made_cell (w.alloc (.cells #[.string c.code, .int .i64 c.kind, .int .i64 c.peril, .int .i64 c.voluntary, .int .i64 c.reasonable, .int .i64 c.result, .string c.to] 26)) #[.int .i64 e.day, .int .i64 e.kind, .string e.interest, .int .i64 e.amount, .bool e.peril, .bool e.voluntary, .bool e.reasonable] 34 3 (.int .i64 e.amount) rfl
  have e4 := made_cell (w.alloc (.cells #[.string c.code, .int .i64 c.kind, .int .i64 c.peril, .int .i64 c.voluntary, .int .i64 c.reasonable, .int .i64 c.result, .string c.to] 26)) #[.int .i64 e.day, .int .i64 e.kind, .string e.interest, .int .i64 e.amount, .bool e.peril, .bool e.voluntary, .bool e.reasonable] 34 4 (.bool e.peril) rfl
  have e5 := made_cell (w.alloc (.cells #[.string c.code, .int .i64 c.kind, .int .i64 c.peril, .int .i64 c.voluntary, .int .i64 c.reasonable, .int .i64 c.result, .string c.to] 26)) #[.int .i64 e.day, .int .i64 e.kind, .string e.interest, .int .i64 e.amount, .bool e.peril, .bool e.voluntary, .bool e.reasonable] 34 5 (.bool e.voluntary) rfl
  have e6 := made_cell (w.alloc (.cells #[.string c.code, .int .i64 c.kind, .int .i64 c.peril, .int .i64 c.voluntary, .int .i64 c.reasonable, .int .i64 c.result, .string c.to] 26)) #[.int .i64 e.day, .int .i64 e.kind, .string e.interest, .int .i64 e.amount, .bool e.peril, .bool e.voluntary, .bool e.reasonable] 34 6 (.bool e.reasonable) rfl
  simp only [World.size_alloc] at e0 e1 e2 e3 e4 e5 e6
  clear B2
  go_enter Try.func69, Try.ntmps69
  cases h0 : (c.kind == -1)
  · skip
    cases h1 : (c.kind == e.kind)
    · skip
      go_wp2
      go_ret
      exact ⟨ret_b (by try unfold matches_; simp [*]), B⟩
    · skip
      go_wp2_with fail
      refine (met_impl _ _ _).mono ?_
      rintro e w1 ⟨rfl, rfl⟩
      cases h2 : met c.peril e.peril
      · skip
        go_wp2
        go_ret
        exact ⟨ret_b (by try unfold matches_; simp [*]), B⟩
      · skip
        go_wp2_with fail
        refine (met_impl _ _ _).mono ?_
        rintro e w2 ⟨rfl, rfl⟩
        cases h3 : met c.voluntary e.voluntary
        · skip
          go_wp2
          go_ret
          exact ⟨ret_b (by try unfold matches_; simp [*]), B⟩
        · skip
          go_wp2_with fail
          refine (met_impl _ _ _).mono ?_
          rintro e w3 ⟨rfl, rfl⟩
          cases h4 : met c.reasonable e.reasonable
          · skip
            go_wp2
            go_ret
            exact ⟨ret_b (by try unfold matches_; simp [*]), B⟩
          · skip
            go_wp2
            go_ret
            exact ⟨ret_b (by try unfold matches_; simp [*]), B⟩
  · skip
    go_wp2_with fail
    refine (met_impl _ _ _).mono ?_
    rintro e w1 ⟨rfl, rfl⟩
    cases h1 : met c.peril e.peril
    · skip
      go_wp2
      go_ret
      exact ⟨ret_b (by try unfold matches_; simp [*]), B⟩
    · skip
      go_wp2_with fail
      refine (met_impl _ _ _).mono ?_
      rintro e w2 ⟨rfl, rfl⟩
      cases h2 : met c.voluntary e.voluntary
      · skip
        go_wp2
        go_ret
        exact ⟨ret_b (by try unfold matches_; simp [*]), B⟩
      · skip
        go_wp2_with fail
        refine (met_impl _ _ _).mono ?_
        rintro e w3 ⟨rfl, rfl⟩
        cases h3 : met c.reasonable e.reasonable
        · skip
          go_wp2
          go_ret
          exact ⟨ret_b (by try unfold matches_; simp [*]), B⟩
        · skip
          go_wp2
          go_ret
          exact ⟨ret_b (by try unfold matches_; simp [*]), B⟩

set_option maxHeartbeats 8000000 in
set_option maxRecDepth 100000 in
theorem DoesMatch_spec (c : Clause) (e : Event) (hs : c.tiny) (he : e.tiny) (w : World) :
    Calls Try.prog 20 #[c.val, e.val] w fun e' w' => e' = .returned (.tuple #[.bool (doesMatch c e).1, .int .i64 (doesMatch c e).2]) ∧ Below w.heap.size w w' := by
  have B := ((Below.refl w.heap.size w).alloc (Nat.le_refl _) (.cells #[.string c.code, .int .i64 c.kind, .int .i64 c.peril, .int .i64 c.voluntary, .int .i64 c.reasonable, .int .i64 c.result, .string c.to] 26)).alloc (by simp) (.cells #[.int .i64 e.day, .int .i64 e.kind, .string e.interest, .int .i64 e.amount, .bool e.peril, .bool e.voluntary, .bool e.reasonable] 34)
  have B2 := (Below.refl (w.alloc (.cells #[.string c.code, .int .i64 c.kind, .int .i64 c.peril, .int .i64 c.voluntary, .int .i64 c.reasonable, .int .i64 c.result, .string c.to] 26)).heap.size (w.alloc (.cells #[.string c.code, .int .i64 c.kind, .int .i64 c.peril, .int .i64 c.voluntary, .int .i64 c.reasonable, .int .i64 c.result, .string c.to] 26))).alloc (Nat.le_refl _) (.cells #[.int .i64 e.day, .int .i64 e.kind, .string e.interest, .int .i64 e.amount, .bool e.peril, .bool e.voluntary, .bool e.reasonable] 34)
  have d0 := below_cell B2 (made_cell w #[.string c.code, .int .i64 c.kind, .int .i64 c.peril, .int .i64 c.voluntary, .int .i64 c.reasonable, .int .i64 c.result, .string c.to] 26 0 (.string c.code) rfl)
  have d1 := below_cell B2 (made_cell w #[.string c.code, .int .i64 c.kind, .int .i64 c.peril, .int .i64 c.voluntary, .int .i64 c.reasonable, .int .i64 c.result, .string c.to] 26 1 (.int .i64 c.kind) rfl)
  have d2 := below_cell B2 (made_cell w #[.string c.code, .int .i64 c.kind, .int .i64 c.peril, .int .i64 c.voluntary, .int .i64 c.reasonable, .int .i64 c.result, .string c.to] 26 2 (.int .i64 c.peril) rfl)
  have d3 := below_cell B2 (made_cell w #[.string c.code, .int .i64 c.kind, .int .i64 c.peril, .int .i64 c.voluntary, .int .i64 c.reasonable, .int .i64 c.result, .string c.to] 26 3 (.int .i64 c.voluntary) rfl)
  have d4 := below_cell B2 (made_cell w #[.string c.code, .int .i64 c.kind, .int .i64 c.peril, .int .i64 c.voluntary, .int .i64 c.reasonable, .int .i64 c.result, .string c.to] 26 4 (.int .i64 c.reasonable) rfl)
  have d5 := below_cell B2 (made_cell w #[.string c.code, .int .i64 c.kind, .int .i64 c.peril, .int .i64 c.voluntary, .int .i64 c.reasonable, .int .i64 c.result, .string c.to] 26 5 (.int .i64 c.result) rfl)
  have d6 := below_cell B2 (made_cell w #[.string c.code, .int .i64 c.kind, .int .i64 c.peril, .int .i64 c.voluntary, .int .i64 c.reasonable, .int .i64 c.result, .string c.to] 26 6 (.string c.to) rfl)
  have e0 := made_cell (w.alloc (.cells #[.string c.code, .int .i64 c.kind, .int .i64 c.peril, .int .i64 c.voluntary, .int .i64 c.reasonable, .int .i64 c.result, .string c.to] 26)) #[.int .i64 e.day, .int .i64 e.kind, .string e.interest, .int .i64 e.amount, .bool e.peril, .bool e.voluntary, .bool e.reasonable] 34 0 (.int .i64 e.day) rfl
  have e1 := made_cell (w.alloc (.cells #[.string c.code, .int .i64 c.kind, .int .i64 c.peril, .int .i64 c.voluntary, .int .i64 c.reasonable, .int .i64 c.result, .string c.to] 26)) #[.int .i64 e.day, .int .i64 e.kind, .string e.interest, .int .i64 e.amount, .bool e.peril, .bool e.voluntary, .bool e.reasonable] 34 1 (.int .i64 e.kind) rfl
  have e2 := made_cell (w.alloc (.cells #[.string c.code, .int .i64 c.kind, .int .i64 c.peril, .int .i64 c.voluntary, .int .i64 c.reasonable, .int .i64 c.result, .string c.to] 26)) #[.int .i64 e.day, .int .i64 e.kind, .string e.interest, .int .i64 e.amount, .bool e.peril, .bool e.voluntary, .bool e.reasonable] 34 2 (.string e.interest) rfl
  have e3 := made_cell (w.alloc (.cells #[.string c.code, .int .i64 c.kind, .int .i64 c.peril, .int .i64 c.voluntary, .int .i64 c.reasonable, .int .i64 c.result, .string c.to] 26)) #[.int .i64 e.day, .int .i64 e.kind, .string e.interest, .int .i64 e.amount, .bool e.peril, .bool e.voluntary, .bool e.reasonable] 34 3 (.int .i64 e.amount) rfl
  have e4 := made_cell (w.alloc (.cells #[.string c.code, .int .i64 c.kind, .int .i64 c.peril, .int .i64 c.voluntary, .int .i64 c.reasonable, .int .i64 c.result, .string c.to] 26)) #[.int .i64 e.day, .int .i64 e.kind, .string e.interest, .int .i64 e.amount, .bool e.peril, .bool e.voluntary, .bool e.reasonable] 34 4 (.bool e.peril) rfl
  have e5 := made_cell (w.alloc (.cells #[.string c.code, .int .i64 c.kind, .int .i64 c.peril, .int .i64 c.voluntary, .int .i64 c.reasonable, .int .i64 c.result, .string c.to] 26)) #[.int .i64 e.day, .int .i64 e.kind, .string e.interest, .int .i64 e.amount, .bool e.peril, .bool e.voluntary, .bool e.reasonable] 34 5 (.bool e.voluntary) rfl
  have e6 := made_cell (w.alloc (.cells #[.string c.code, .int .i64 c.kind, .int .i64 c.peril, .int .i64 c.voluntary, .int .i64 c.reasonable, .int .i64 c.result, .string c.to] 26)) #[.int .i64 e.day, .int .i64 e.kind, .string e.interest, .int .i64 e.amount, .bool e.peril, .bool e.voluntary, .bool e.reasonable] 34 6 (.bool e.reasonable) rfl
  simp only [World.size_alloc] at e0 e1 e2 e3 e4 e5 e6
  clear B2
  go_enter Try.func20, Try.ntmps20
  go_wp2_with fail
  refine (isClause_spec _ hs _).mono ?_
  rintro e w1 ⟨rfl, hb⟩
  replace B := B.trans (hb.mono B.size)
  replace d0 := below_cell hb d0
  replace d1 := below_cell hb d1
  replace d2 := below_cell hb d2
  replace d3 := below_cell hb d3
  replace d4 := below_cell hb d4
  replace d5 := below_cell hb d5
  replace d6 := below_cell hb d6
  replace e0 := below_cell hb e0
  replace e1 := below_cell hb e1
  replace e2 := below_cell hb e2
  replace e3 := below_cell hb e3
  replace e4 := below_cell hb e4
  replace e5 := below_cell hb e5
  replace e6 := below_cell hb e6
  clear hb
  cases h0 : c.okB
  · skip
    go_wp2
    go_ret2
    exact ⟨by try unfold doesMatch; simp [*], B⟩
  · skip
    go_wp2_with fail
    refine (isEvent_spec _ he _).mono ?_
    rintro e w2 ⟨rfl, hb⟩
    replace B := B.trans (hb.mono B.size)
    replace d0 := below_cell hb d0
    replace d1 := below_cell hb d1
    replace d2 := below_cell hb d2
    replace d3 := below_cell hb d3
    replace d4 := below_cell hb d4
    replace d5 := below_cell hb d5
    replace d6 := below_cell hb d6
    replace e0 := below_cell hb e0
    replace e1 := below_cell hb e1
    replace e2 := below_cell hb e2
    replace e3 := below_cell hb e3
    replace e4 := below_cell hb e4
    replace e5 := below_cell hb e5
    replace e6 := below_cell hb e6
    clear hb
    cases h1 : e.okB
    · skip
      go_wp2
      go_ret2
      exact ⟨by try unfold doesMatch; simp [*], B⟩
    · skip
      go_wp2_with fail
      refine (matches_spec _ _ _).mono ?_
      rintro e w3 ⟨rfl, hb⟩
      replace B := B.trans (hb.mono B.size)
      replace d0 := below_cell hb d0
      replace d1 := below_cell hb d1
      replace d2 := below_cell hb d2
      replace d3 := below_cell hb d3
      replace d4 := below_cell hb d4
      replace d5 := below_cell hb d5
      replace d6 := below_cell hb d6
      replace e0 := below_cell hb e0
      replace e1 := below_cell hb e1
      replace e2 := below_cell hb e2
      replace e3 := below_cell hb e3
      replace e4 := below_cell hb e4
      replace e5 := below_cell hb e5
      replace e6 := below_cell hb e6
      clear hb
      cases h2 : matches_ c e
      · skip
        go_wp2
        go_ret2
        exact ⟨by try unfold doesMatch; simp [*], B⟩
      · skip
        go_wp2
        go_ret2
        exact ⟨by try unfold doesMatch; simp [*], B⟩

set_option maxHeartbeats 8000000 in
set_option maxRecDepth 100000 in
theorem DoesMatch_impl (c : Clause) (e : Event) (hs : c.tiny) (he : e.tiny) (w : World) :
    Calls Try.prog 22 #[c.val, e.val] w fun e' w' => e' = .returned (.tuple #[.bool (doesMatch c e).1, .int .i64 (doesMatch c e).2]) ∧ Below w.heap.size w w' := by
  have B := ((Below.refl w.heap.size w).alloc (Nat.le_refl _) (.cells #[.string c.code, .int .i64 c.kind, .int .i64 c.peril, .int .i64 c.voluntary, .int .i64 c.reasonable, .int .i64 c.result, .string c.to] 26)).alloc (by simp) (.cells #[.int .i64 e.day, .int .i64 e.kind, .string e.interest, .int .i64 e.amount, .bool e.peril, .bool e.voluntary, .bool e.reasonable] 34)
  have B2 := (Below.refl (w.alloc (.cells #[.string c.code, .int .i64 c.kind, .int .i64 c.peril, .int .i64 c.voluntary, .int .i64 c.reasonable, .int .i64 c.result, .string c.to] 26)).heap.size (w.alloc (.cells #[.string c.code, .int .i64 c.kind, .int .i64 c.peril, .int .i64 c.voluntary, .int .i64 c.reasonable, .int .i64 c.result, .string c.to] 26))).alloc (Nat.le_refl _) (.cells #[.int .i64 e.day, .int .i64 e.kind, .string e.interest, .int .i64 e.amount, .bool e.peril, .bool e.voluntary, .bool e.reasonable] 34)
  have d0 := below_cell B2 (made_cell w #[.string c.code, .int .i64 c.kind, .int .i64 c.peril, .int .i64 c.voluntary, .int .i64 c.reasonable, .int .i64 c.result, .string c.to] 26 0 (.string c.code) rfl)
  have d1 := below_cell B2 (made_cell w #[.string c.code, .int .i64 c.kind, .int .i64 c.peril, .int .i64 c.voluntary, .int .i64 c.reasonable, .int .i64 c.result, .string c.to] 26 1 (.int .i64 c.kind) rfl)
  have d2 := below_cell B2 (made_cell w #[.string c.code, .int .i64 c.kind, .int .i64 c.peril, .int .i64 c.voluntary, .int .i64 c.reasonable, .int .i64 c.result, .string c.to] 26 2 (.int .i64 c.peril) rfl)
  have d3 := below_cell B2 (made_cell w #[.string c.code, .int .i64 c.kind, .int .i64 c.peril, .int .i64 c.voluntary, .int .i64 c.reasonable, .int .i64 c.result, .string c.to] 26 3 (.int .i64 c.voluntary) rfl)
  have d4 := below_cell B2 (made_cell w #[.string c.code, .int .i64 c.kind, .int .i64 c.peril, .int .i64 c.voluntary, .int .i64 c.reasonable, .int .i64 c.result, .string c.to] 26 4 (.int .i64 c.reasonable) rfl)
  have d5 := below_cell B2 (made_cell w #[.string c.code, .int .i64 c.kind, .int .i64 c.peril, .int .i64 c.voluntary, .int .i64 c.reasonable, .int .i64 c.result, .string c.to] 26 5 (.int .i64 c.result) rfl)
  have d6 := below_cell B2 (made_cell w #[.string c.code, .int .i64 c.kind, .int .i64 c.peril, .int .i64 c.voluntary, .int .i64 c.reasonable, .int .i64 c.result, .string c.to] 26 6 (.string c.to) rfl)
  have e0 := made_cell (w.alloc (.cells #[.string c.code, .int .i64 c.kind, .int .i64 c.peril, .int .i64 c.voluntary, .int .i64 c.reasonable, .int .i64 c.result, .string c.to] 26)) #[.int .i64 e.day, .int .i64 e.kind, .string e.interest, .int .i64 e.amount, .bool e.peril, .bool e.voluntary, .bool e.reasonable] 34 0 (.int .i64 e.day) rfl
  have e1 := made_cell (w.alloc (.cells #[.string c.code, .int .i64 c.kind, .int .i64 c.peril, .int .i64 c.voluntary, .int .i64 c.reasonable, .int .i64 c.result, .string c.to] 26)) #[.int .i64 e.day, .int .i64 e.kind, .string e.interest, .int .i64 e.amount, .bool e.peril, .bool e.voluntary, .bool e.reasonable] 34 1 (.int .i64 e.kind) rfl
  have e2 := made_cell (w.alloc (.cells #[.string c.code, .int .i64 c.kind, .int .i64 c.peril, .int .i64 c.voluntary, .int .i64 c.reasonable, .int .i64 c.result, .string c.to] 26)) #[.int .i64 e.day, .int .i64 e.kind, .string e.interest, .int .i64 e.amount, .bool e.peril, .bool e.voluntary, .bool e.reasonable] 34 2 (.string e.interest) rfl
  have e3 := made_cell (w.alloc (.cells #[.string c.code, .int .i64 c.kind, .int .i64 c.peril, .int .i64 c.voluntary, .int .i64 c.reasonable, .int .i64 c.result, .string c.to] 26)) #[.int .i64 e.day, .int .i64 e.kind, .string e.interest, .int .i64 e.amount, .bool e.peril, .bool e.voluntary, .bool e.reasonable] 34 3 (.int .i64 e.amount) rfl
  have e4 := made_cell (w.alloc (.cells #[.string c.code, .int .i64 c.kind, .int .i64 c.peril, .int .i64 c.voluntary, .int .i64 c.reasonable, .int .i64 c.result, .string c.to] 26)) #[.int .i64 e.day, .int .i64 e.kind, .string e.interest, .int .i64 e.amount, .bool e.peril, .bool e.voluntary, .bool e.reasonable] 34 4 (.bool e.peril) rfl
  have e5 := made_cell (w.alloc (.cells #[.string c.code, .int .i64 c.kind, .int .i64 c.peril, .int .i64 c.voluntary, .int .i64 c.reasonable, .int .i64 c.result, .string c.to] 26)) #[.int .i64 e.day, .int .i64 e.kind, .string e.interest, .int .i64 e.amount, .bool e.peril, .bool e.voluntary, .bool e.reasonable] 34 5 (.bool e.voluntary) rfl
  have e6 := made_cell (w.alloc (.cells #[.string c.code, .int .i64 c.kind, .int .i64 c.peril, .int .i64 c.voluntary, .int .i64 c.reasonable, .int .i64 c.result, .string c.to] 26)) #[.int .i64 e.day, .int .i64 e.kind, .string e.interest, .int .i64 e.amount, .bool e.peril, .bool e.voluntary, .bool e.reasonable] 34 6 (.bool e.reasonable) rfl
  simp only [World.size_alloc] at e0 e1 e2 e3 e4 e5 e6
  clear B2
  go_enter Try.func22, Try.ntmps22
  go_wp2_with fail
  refine (isClause_impl _ hs _).mono ?_
  rintro e w1 ⟨rfl, hb⟩
  replace B := B.trans (hb.mono B.size)
  replace d0 := below_cell hb d0
  replace d1 := below_cell hb d1
  replace d2 := below_cell hb d2
  replace d3 := below_cell hb d3
  replace d4 := below_cell hb d4
  replace d5 := below_cell hb d5
  replace d6 := below_cell hb d6
  replace e0 := below_cell hb e0
  replace e1 := below_cell hb e1
  replace e2 := below_cell hb e2
  replace e3 := below_cell hb e3
  replace e4 := below_cell hb e4
  replace e5 := below_cell hb e5
  replace e6 := below_cell hb e6
  clear hb
  cases h0 : c.okB
  · skip
    go_wp2
    go_ret2
    exact ⟨by try unfold doesMatch; simp [*], B⟩
  · skip
    go_wp2_with fail
    refine (isEvent_impl _ he _).mono ?_
    rintro e w2 ⟨rfl, hb⟩
    replace B := B.trans (hb.mono B.size)
    replace d0 := below_cell hb d0
    replace d1 := below_cell hb d1
    replace d2 := below_cell hb d2
    replace d3 := below_cell hb d3
    replace d4 := below_cell hb d4
    replace d5 := below_cell hb d5
    replace d6 := below_cell hb d6
    replace e0 := below_cell hb e0
    replace e1 := below_cell hb e1
    replace e2 := below_cell hb e2
    replace e3 := below_cell hb e3
    replace e4 := below_cell hb e4
    replace e5 := below_cell hb e5
    replace e6 := below_cell hb e6
    clear hb
    cases h1 : e.okB
    · skip
      go_wp2
      go_ret2
      exact ⟨by try unfold doesMatch; simp [*], B⟩
    · skip
      go_wp2_with fail
      refine (matches_impl _ _ _).mono ?_
      rintro e w3 ⟨rfl, hb⟩
      replace B := B.trans (hb.mono B.size)
      replace d0 := below_cell hb d0
      replace d1 := below_cell hb d1
      replace d2 := below_cell hb d2
      replace d3 := below_cell hb d3
      replace d4 := below_cell hb d4
      replace d5 := below_cell hb d5
      replace d6 := below_cell hb d6
      replace e0 := below_cell hb e0
      replace e1 := below_cell hb e1
      replace e2 := below_cell hb e2
      replace e3 := below_cell hb e3
      replace e4 := below_cell hb e4
      replace e5 := below_cell hb e5
      replace e6 := below_cell hb e6
      clear hb
      cases h2 : matches_ c e
      · skip
        go_wp2
        go_ret2
        exact ⟨by try unfold doesMatch; simp [*], B⟩
      · skip
        go_wp2
        go_ret2
        exact ⟨by try unfold doesMatch; simp [*], B⟩

set_option maxHeartbeats 8000000 in
set_option maxRecDepth 100000 in
theorem WhyNot_spec (c : Clause) (e : Event) (hs : c.tiny) (he : e.tiny) (w : World) :
    Calls Try.prog 23 #[c.val, e.val] w fun e' w' => e' = .returned (.tuple #[.int .i64 (whyNot c e).1, .int .i64 (whyNot c e).2]) ∧ Below w.heap.size w w' := by
  have B := ((Below.refl w.heap.size w).alloc (Nat.le_refl _) (.cells #[.string c.code, .int .i64 c.kind, .int .i64 c.peril, .int .i64 c.voluntary, .int .i64 c.reasonable, .int .i64 c.result, .string c.to] 26)).alloc (by simp) (.cells #[.int .i64 e.day, .int .i64 e.kind, .string e.interest, .int .i64 e.amount, .bool e.peril, .bool e.voluntary, .bool e.reasonable] 34)
  have B2 := (Below.refl (w.alloc (.cells #[.string c.code, .int .i64 c.kind, .int .i64 c.peril, .int .i64 c.voluntary, .int .i64 c.reasonable, .int .i64 c.result, .string c.to] 26)).heap.size (w.alloc (.cells #[.string c.code, .int .i64 c.kind, .int .i64 c.peril, .int .i64 c.voluntary, .int .i64 c.reasonable, .int .i64 c.result, .string c.to] 26))).alloc (Nat.le_refl _) (.cells #[.int .i64 e.day, .int .i64 e.kind, .string e.interest, .int .i64 e.amount, .bool e.peril, .bool e.voluntary, .bool e.reasonable] 34)
  have d0 := below_cell B2 (made_cell w #[.string c.code, .int .i64 c.kind, .int .i64 c.peril, .int .i64 c.voluntary, .int .i64 c.reasonable, .int .i64 c.result, .string c.to] 26 0 (.string c.code) rfl)
  have d1 := below_cell B2 (made_cell w #[.string c.code, .int .i64 c.kind, .int .i64 c.peril, .int .i64 c.voluntary, .int .i64 c.reasonable, .int .i64 c.result, .string c.to] 26 1 (.int .i64 c.kind) rfl)
  have d2 := below_cell B2 (made_cell w #[.string c.code, .int .i64 c.kind, .int .i64 c.peril, .int .i64 c.voluntary, .int .i64 c.reasonable, .int .i64 c.result, .string c.to] 26 2 (.int .i64 c.peril) rfl)
  have d3 := below_cell B2 (made_cell w #[.string c.code, .int .i64 c.kind, .int .i64 c.peril, .int .i64 c.voluntary, .int .i64 c.reasonable, .int .i64 c.result, .string c.to] 26 3 (.int .i64 c.voluntary) rfl)
  have d4 := below_cell B2 (made_cell w #[.string c.code, .int .i64 c.kind, .int .i64 c.peril, .int .i64 c.voluntary, .int .i64 c.reasonable, .int .i64 c.result, .string c.to] 26 4 (.int .i64 c.reasonable) rfl)
  have d5 := below_cell B2 (made_cell w #[.string c.code, .int .i64 c.kind, .int .i64 c.peril, .int .i64 c.voluntary, .int .i64 c.reasonable, .int .i64 c.result, .string c.to] 26 5 (.int .i64 c.result) rfl)
  have d6 := below_cell B2 (made_cell w #[.string c.code, .int .i64 c.kind, .int .i64 c.peril, .int .i64 c.voluntary, .int .i64 c.reasonable, .int .i64 c.result, .string c.to] 26 6 (.string c.to) rfl)
  have e0 := made_cell (w.alloc (.cells #[.string c.code, .int .i64 c.kind, .int .i64 c.peril, .int .i64 c.voluntary, .int .i64 c.reasonable, .int .i64 c.result, .string c.to] 26)) #[.int .i64 e.day, .int .i64 e.kind, .string e.interest, .int .i64 e.amount, .bool e.peril, .bool e.voluntary, .bool e.reasonable] 34 0 (.int .i64 e.day) rfl
  have e1 := made_cell (w.alloc (.cells #[.string c.code, .int .i64 c.kind, .int .i64 c.peril, .int .i64 c.voluntary, .int .i64 c.reasonable, .int .i64 c.result, .string c.to] 26)) #[.int .i64 e.day, .int .i64 e.kind, .string e.interest, .int .i64 e.amount, .bool e.peril, .bool e.voluntary, .bool e.reasonable] 34 1 (.int .i64 e.kind) rfl
  have e2 := made_cell (w.alloc (.cells #[.string c.code, .int .i64 c.kind, .int .i64 c.peril, .int .i64 c.voluntary, .int .i64 c.reasonable, .int .i64 c.result, .string c.to] 26)) #[.int .i64 e.day, .int .i64 e.kind, .string e.interest, .int .i64 e.amount, .bool e.peril, .bool e.voluntary, .bool e.reasonable] 34 2 (.string e.interest) rfl
  have e3 := made_cell (w.alloc (.cells #[.string c.code, .int .i64 c.kind, .int .i64 c.peril, .int .i64 c.voluntary, .int .i64 c.reasonable, .int .i64 c.result, .string c.to] 26)) #[.int .i64 e.day, .int .i64 e.kind, .string e.interest, .int .i64 e.amount, .bool e.peril, .bool e.voluntary, .bool e.reasonable] 34 3 (.int .i64 e.amount) rfl
  have e4 := made_cell (w.alloc (.cells #[.string c.code, .int .i64 c.kind, .int .i64 c.peril, .int .i64 c.voluntary, .int .i64 c.reasonable, .int .i64 c.result, .string c.to] 26)) #[.int .i64 e.day, .int .i64 e.kind, .string e.interest, .int .i64 e.amount, .bool e.peril, .bool e.voluntary, .bool e.reasonable] 34 4 (.bool e.peril) rfl
  have e5 := made_cell (w.alloc (.cells #[.string c.code, .int .i64 c.kind, .int .i64 c.peril, .int .i64 c.voluntary, .int .i64 c.reasonable, .int .i64 c.result, .string c.to] 26)) #[.int .i64 e.day, .int .i64 e.kind, .string e.interest, .int .i64 e.amount, .bool e.peril, .bool e.voluntary, .bool e.reasonable] 34 5 (.bool e.voluntary) rfl
  have e6 := made_cell (w.alloc (.cells #[.string c.code, .int .i64 c.kind, .int .i64 c.peril, .int .i64 c.voluntary, .int .i64 c.reasonable, .int .i64 c.result, .string c.to] 26)) #[.int .i64 e.day, .int .i64 e.kind, .string e.interest, .int .i64 e.amount, .bool e.peril, .bool e.voluntary, .bool e.reasonable] 34 6 (.bool e.reasonable) rfl
  simp only [World.size_alloc] at e0 e1 e2 e3 e4 e5 e6
  clear B2
  go_enter Try.func23, Try.ntmps23
  go_wp2_with fail
  refine (isClause_spec _ hs _).mono ?_
  rintro e w1 ⟨rfl, hb⟩
  replace B := B.trans (hb.mono B.size)
  replace d0 := below_cell hb d0
  replace d1 := below_cell hb d1
  replace d2 := below_cell hb d2
  replace d3 := below_cell hb d3
  replace d4 := below_cell hb d4
  replace d5 := below_cell hb d5
  replace d6 := below_cell hb d6
  replace e0 := below_cell hb e0
  replace e1 := below_cell hb e1
  replace e2 := below_cell hb e2
  replace e3 := below_cell hb e3
  replace e4 := below_cell hb e4
  replace e5 := below_cell hb e5
  replace e6 := below_cell hb e6
  clear hb
  cases h0 : c.okB
  · skip
    go_wp2
    go_ret2
    exact ⟨by try unfold whyNot; simp [*], B⟩
  · skip
    go_wp2_with fail
    refine (isEvent_spec _ he _).mono ?_
    rintro e w2 ⟨rfl, hb⟩
    replace B := B.trans (hb.mono B.size)
    replace d0 := below_cell hb d0
    replace d1 := below_cell hb d1
    replace d2 := below_cell hb d2
    replace d3 := below_cell hb d3
    replace d4 := below_cell hb d4
    replace d5 := below_cell hb d5
    replace d6 := below_cell hb d6
    replace e0 := below_cell hb e0
    replace e1 := below_cell hb e1
    replace e2 := below_cell hb e2
    replace e3 := below_cell hb e3
    replace e4 := below_cell hb e4
    replace e5 := below_cell hb e5
    replace e6 := below_cell hb e6
    clear hb
    cases h1 : e.okB
    · skip
      go_wp2
      go_ret2
      exact ⟨by try unfold whyNot; simp [*], B⟩
    · skip
      cases h2 : (c.kind == -1)
      · skip
        have n2 : (c.kind != -1) = true := by rw [bne, h2]; rfl
        cases h3 : (c.kind == e.kind)
        · skip
          have n3 : (c.kind != e.kind) = true := by rw [bne, h3]; rfl
          go_wp2
          go_ret2
          exact ⟨by try unfold whyNot; simp [*], B⟩
        · skip
          have n3 : (c.kind != e.kind) = false := by rw [bne, h3]; rfl
          go_wp2_with fail
          refine (met_spec _ _ _).mono ?_
          rintro e w3 ⟨rfl, rfl⟩
          cases h4 : met c.peril e.peril
          · skip
            go_wp2
            go_ret2
            exact ⟨by try unfold whyNot; simp [*], B⟩
          · skip
            go_wp2_with fail
            refine (met_spec _ _ _).mono ?_
            rintro e w4 ⟨rfl, rfl⟩
            cases h5 : met c.voluntary e.voluntary
            · skip
              go_wp2
              go_ret2
              exact ⟨by try unfold whyNot; simp [*], B⟩
            · skip
              go_wp2_with fail
              refine (met_spec _ _ _).mono ?_
              rintro e w5 ⟨rfl, rfl⟩
              cases h6 : met c.reasonable e.reasonable
              · skip
                go_wp2
                go_ret2
                exact ⟨by try unfold whyNot; simp [*], B⟩
              · skip
                go_wp2
                go_ret2
                exact ⟨by try unfold whyNot; simp [*], B⟩
      · skip
        have n2 : (c.kind != -1) = false := by rw [bne, h2]; rfl
        go_wp2_with fail
        refine (met_spec _ _ _).mono ?_
        rintro e w3 ⟨rfl, rfl⟩
        cases h3 : met c.peril e.peril
        · skip
          go_wp2
          go_ret2
          exact ⟨by try unfold whyNot; simp [*], B⟩
        · skip
          go_wp2_with fail
          refine (met_spec _ _ _).mono ?_
          rintro e w4 ⟨rfl, rfl⟩
          cases h4 : met c.voluntary e.voluntary
          · skip
            go_wp2
            go_ret2
            exact ⟨by try unfold whyNot; simp [*], B⟩
          · skip
            go_wp2_with fail
            refine (met_spec _ _ _).mono ?_
            rintro e w5 ⟨rfl, rfl⟩
            cases h5 : met c.reasonable e.reasonable
            · skip
              go_wp2
              go_ret2
              exact ⟨by try unfold whyNot; simp [*], B⟩
            · skip
              go_wp2
              go_ret2
              exact ⟨by try unfold whyNot; simp [*], B⟩

set_option maxHeartbeats 8000000 in
set_option maxRecDepth 100000 in
theorem WhyNot_impl (c : Clause) (e : Event) (hs : c.tiny) (he : e.tiny) (w : World) :
    Calls Try.prog 24 #[c.val, e.val] w fun e' w' => e' = .returned (.tuple #[.int .i64 (whyNot c e).1, .int .i64 (whyNot c e).2]) ∧ Below w.heap.size w w' := by
  have B := ((Below.refl w.heap.size w).alloc (Nat.le_refl _) (.cells #[.string c.code, .int .i64 c.kind, .int .i64 c.peril, .int .i64 c.voluntary, .int .i64 c.reasonable, .int .i64 c.result, .string c.to] 26)).alloc (by simp) (.cells #[.int .i64 e.day, .int .i64 e.kind, .string e.interest, .int .i64 e.amount, .bool e.peril, .bool e.voluntary, .bool e.reasonable] 34)
  have B2 := (Below.refl (w.alloc (.cells #[.string c.code, .int .i64 c.kind, .int .i64 c.peril, .int .i64 c.voluntary, .int .i64 c.reasonable, .int .i64 c.result, .string c.to] 26)).heap.size (w.alloc (.cells #[.string c.code, .int .i64 c.kind, .int .i64 c.peril, .int .i64 c.voluntary, .int .i64 c.reasonable, .int .i64 c.result, .string c.to] 26))).alloc (Nat.le_refl _) (.cells #[.int .i64 e.day, .int .i64 e.kind, .string e.interest, .int .i64 e.amount, .bool e.peril, .bool e.voluntary, .bool e.reasonable] 34)
  have d0 := below_cell B2 (made_cell w #[.string c.code, .int .i64 c.kind, .int .i64 c.peril, .int .i64 c.voluntary, .int .i64 c.reasonable, .int .i64 c.result, .string c.to] 26 0 (.string c.code) rfl)
  have d1 := below_cell B2 (made_cell w #[.string c.code, .int .i64 c.kind, .int .i64 c.peril, .int .i64 c.voluntary, .int .i64 c.reasonable, .int .i64 c.result, .string c.to] 26 1 (.int .i64 c.kind) rfl)
  have d2 := below_cell B2 (made_cell w #[.string c.code, .int .i64 c.kind, .int .i64 c.peril, .int .i64 c.voluntary, .int .i64 c.reasonable, .int .i64 c.result, .string c.to] 26 2 (.int .i64 c.peril) rfl)
  have d3 := below_cell B2 (made_cell w #[.string c.code, .int .i64 c.kind, .int .i64 c.peril, .int .i64 c.voluntary, .int .i64 c.reasonable, .int .i64 c.result, .string c.to] 26 3 (.int .i64 c.voluntary) rfl)
  have d4 := below_cell B2 (made_cell w #[.string c.code, .int .i64 c.kind, .int .i64 c.peril, .int .i64 c.voluntary, .int .i64 c.reasonable, .int .i64 c.result, .string c.to] 26 4 (.int .i64 c.reasonable) rfl)
  have d5 := below_cell B2 (made_cell w #[.string c.code, .int .i64 c.kind, .int .i64 c.peril, .int .i64 c.voluntary, .int .i64 c.reasonable, .int .i64 c.result, .string c.to] 26 5 (.int .i64 c.result) rfl)
  have d6 := below_cell B2 (made_cell w #[.string c.code, .int .i64 c.kind, .int .i64 c.peril, .int .i64 c.voluntary, .int .i64 c.reasonable, .int .i64 c.result, .string c.to] 26 6 (.string c.to) rfl)
  have e0 := made_cell (w.alloc (.cells #[.string c.code, .int .i64 c.kind, .int .i64 c.peril, .int .i64 c.voluntary, .int .i64 c.reasonable, .int .i64 c.result, .string c.to] 26)) #[.int .i64 e.day, .int .i64 e.kind, .string e.interest, .int .i64 e.amount, .bool e.peril, .bool e.voluntary, .bool e.reasonable] 34 0 (.int .i64 e.day) rfl
  have e1 := made_cell (w.alloc (.cells #[.string c.code, .int .i64 c.kind, .int .i64 c.peril, .int .i64 c.voluntary, .int .i64 c.reasonable, .int .i64 c.result, .string c.to] 26)) #[.int .i64 e.day, .int .i64 e.kind, .string e.interest, .int .i64 e.amount, .bool e.peril, .bool e.voluntary, .bool e.reasonable] 34 1 (.int .i64 e.kind) rfl
  have e2 := made_cell (w.alloc (.cells #[.string c.code, .int .i64 c.kind, .int .i64 c.peril, .int .i64 c.voluntary, .int .i64 c.reasonable, .int .i64 c.result, .string c.to] 26)) #[.int .i64 e.day, .int .i64 e.kind, .string e.interest, .int .i64 e.amount, .bool e.peril, .bool e.voluntary, .bool e.reasonable] 34 2 (.string e.interest) rfl
  have e3 := made_cell (w.alloc (.cells #[.string c.code, .int .i64 c.kind, .int .i64 c.peril, .int .i64 c.voluntary, .int .i64 c.reasonable, .int .i64 c.result, .string c.to] 26)) #[.int .i64 e.day, .int .i64 e.kind, .string e.interest, .int .i64 e.amount, .bool e.peril, .bool e.voluntary, .bool e.reasonable] 34 3 (.int .i64 e.amount) rfl
  have e4 := made_cell (w.alloc (.cells #[.string c.code, .int .i64 c.kind, .int .i64 c.peril, .int .i64 c.voluntary, .int .i64 c.reasonable, .int .i64 c.result, .string c.to] 26)) #[.int .i64 e.day, .int .i64 e.kind, .string e.interest, .int .i64 e.amount, .bool e.peril, .bool e.voluntary, .bool e.reasonable] 34 4 (.bool e.peril) rfl
  have e5 := made_cell (w.alloc (.cells #[.string c.code, .int .i64 c.kind, .int .i64 c.peril, .int .i64 c.voluntary, .int .i64 c.reasonable, .int .i64 c.result, .string c.to] 26)) #[.int .i64 e.day, .int .i64 e.kind, .string e.interest, .int .i64 e.amount, .bool e.peril, .bool e.voluntary, .bool e.reasonable] 34 5 (.bool e.voluntary) rfl
  have e6 := made_cell (w.alloc (.cells #[.string c.code, .int .i64 c.kind, .int .i64 c.peril, .int .i64 c.voluntary, .int .i64 c.reasonable, .int .i64 c.result, .string c.to] 26)) #[.int .i64 e.day, .int .i64 e.kind, .string e.interest, .int .i64 e.amount, .bool e.peril, .bool e.voluntary, .bool e.reasonable] 34 6 (.bool e.reasonable) rfl
  simp only [World.size_alloc] at e0 e1 e2 e3 e4 e5 e6
  clear B2
  go_enter Try.func24, Try.ntmps24
  go_wp2_with fail
  refine (isClause_impl _ hs _).mono ?_
  rintro e w1 ⟨rfl, hb⟩
  replace B := B.trans (hb.mono B.size)
  replace d0 := below_cell hb d0
  replace d1 := below_cell hb d1
  replace d2 := below_cell hb d2
  replace d3 := below_cell hb d3
  replace d4 := below_cell hb d4
  replace d5 := below_cell hb d5
  replace d6 := below_cell hb d6
  replace e0 := below_cell hb e0
  replace e1 := below_cell hb e1
  replace e2 := below_cell hb e2
  replace e3 := below_cell hb e3
  replace e4 := below_cell hb e4
  replace e5 := below_cell hb e5
  replace e6 := below_cell hb e6
  clear hb
  cases h0 : c.okB
  · skip
    go_wp2
    go_ret2
    exact ⟨by try unfold whyNot; simp [*], B⟩
  · skip
    go_wp2_with fail
    refine (isEvent_impl _ he _).mono ?_
    rintro e w2 ⟨rfl, hb⟩
    replace B := B.trans (hb.mono B.size)
    replace d0 := below_cell hb d0
    replace d1 := below_cell hb d1
    replace d2 := below_cell hb d2
    replace d3 := below_cell hb d3
    replace d4 := below_cell hb d4
    replace d5 := below_cell hb d5
    replace d6 := below_cell hb d6
    replace e0 := below_cell hb e0
    replace e1 := below_cell hb e1
    replace e2 := below_cell hb e2
    replace e3 := below_cell hb e3
    replace e4 := below_cell hb e4
    replace e5 := below_cell hb e5
    replace e6 := below_cell hb e6
    clear hb
    cases h1 : e.okB
    · skip
      go_wp2
      go_ret2
      exact ⟨by try unfold whyNot; simp [*], B⟩
    · skip
      cases h2 : (c.kind == -1)
      · skip
        have n2 : (c.kind != -1) = true := by rw [bne, h2]; rfl
        cases h3 : (c.kind == e.kind)
        · skip
          have n3 : (c.kind != e.kind) = true := by rw [bne, h3]; rfl
          go_wp2
          go_ret2
          exact ⟨by try unfold whyNot; simp [*], B⟩
        · skip
          have n3 : (c.kind != e.kind) = false := by rw [bne, h3]; rfl
          go_wp2_with fail
          refine (met_impl _ _ _).mono ?_
          rintro e w3 ⟨rfl, rfl⟩
          cases h4 : met c.peril e.peril
          · skip
            go_wp2
            go_ret2
            exact ⟨by try unfold whyNot; simp [*], B⟩
          · skip
            go_wp2_with fail
            refine (met_impl _ _ _).mono ?_
            rintro e w4 ⟨rfl, rfl⟩
            cases h5 : met c.voluntary e.voluntary
            · skip
              go_wp2
              go_ret2
              exact ⟨by try unfold whyNot; simp [*], B⟩
            · skip
              go_wp2_with fail
              refine (met_impl _ _ _).mono ?_
              rintro e w5 ⟨rfl, rfl⟩
              cases h6 : met c.reasonable e.reasonable
              · skip
                go_wp2
                go_ret2
                exact ⟨by try unfold whyNot; simp [*], B⟩
              · skip
                go_wp2
                go_ret2
                exact ⟨by try unfold whyNot; simp [*], B⟩
      · skip
        have n2 : (c.kind != -1) = false := by rw [bne, h2]; rfl
        go_wp2_with fail
        refine (met_impl _ _ _).mono ?_
        rintro e w3 ⟨rfl, rfl⟩
        cases h3 : met c.peril e.peril
        · skip
          go_wp2
          go_ret2
          exact ⟨by try unfold whyNot; simp [*], B⟩
        · skip
          go_wp2_with fail
          refine (met_impl _ _ _).mono ?_
          rintro e w4 ⟨rfl, rfl⟩
          cases h4 : met c.voluntary e.voluntary
          · skip
            go_wp2
            go_ret2
            exact ⟨by try unfold whyNot; simp [*], B⟩
          · skip
            go_wp2_with fail
            refine (met_impl _ _ _).mono ?_
            rintro e w5 ⟨rfl, rfl⟩
            cases h5 : met c.reasonable e.reasonable
            · skip
              go_wp2
              go_ret2
              exact ⟨by try unfold whyNot; simp [*], B⟩
            · skip
              go_wp2
              go_ret2
              exact ⟨by try unfold whyNot; simp [*], B⟩
end Go.Proofs.Ythhfhdekhgkcaaa
