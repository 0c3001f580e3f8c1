/-
  Clauses: IsClause on both sides.
-/
import Derived.Test.YthhfhdekhgkcaaaClause
namespace Go.Proofs.Ythhfhdekhgkcaaa
open Go.RowKit

def isNeed (n : Int) : Bool := inB n 0 2
set_option maxHeartbeats 400000 in
theorem need_spec (n : Int) (w : World) : Calls Try.prog 62 #[.int .i64 n] w fun e w' => e = .returned (.bool (isNeed n)) ∧ w = w' := by
  go_enter Try.func62, Try.ntmps62
  go_wp2_with fail
  refine (l01In_any _ _ _ _).mono ?_
  rintro e w' ⟨rfl, rfl⟩
  go_wp2
  go_ret
  exact ⟨rfl, rfl⟩
set_option maxHeartbeats 400000 in
theorem need_impl (n : Int) (w : World) : Calls Try.prog 63 #[.int .i64 n] w fun e w' => e = .returned (.bool (isNeed n)) ∧ w = w' := by
  go_enter Try.func63, Try.ntmps63
  go_wp2_with fail
  refine (in_any _ _ _ _).mono ?_
  rintro e w' ⟨rfl, rfl⟩
  go_wp2
  go_ret
  exact ⟨rfl, rfl⟩

def Clause.toB (c : Clause) : Bool := if (c.result == 3) = true then isCode c.to else sEq c.to ⟨#[]⟩
def Clause.okB (c : Clause) : Bool := isCode c.code && inB c.kind (-1) 6 && isNeed c.peril && isNeed c.voluntary && isNeed c.reasonable && inB c.result 0 3 && c.toB
theorem Clause.ok_bd {c : Clause} (h : c.okB = true) : (-1 ≤ c.kind ∧ c.kind ≤ 6) ∧ (0 ≤ c.peril ∧ c.peril ≤ 2) ∧ (0 ≤ c.voluntary ∧ c.voluntary ≤ 2) ∧ (0 ≤ c.reasonable ∧ c.reasonable ≤ 2) ∧ (0 ≤ c.result ∧ c.result ≤ 3) := by
  simp only [Clause.okB, Bool.and_eq_true, isNeed, inB_iff] at h; omega

set_option maxHeartbeats 2000000 in
theorem isClause_spec (c : Clause) (hs : c.tiny) (w : World) :
    Calls Try.prog 16 #[c.val] w fun e w' => e = .returned (.bool c.okB) ∧ Below w.heap.size w w' := by
  have B := (Below.refl w.heap.size w).alloc (Nat.le_refl _) (.cells #[.string c.code, .int .i64 c.kind, .int .i64 c.peril, .int .i64 c.voluntary, .int .i64 c.reasonable, .int .i64 c.result, .string c.to] 26)
  have d0 := made_cell w #[.string c.code, .int .i64 c.kind, .int .i64 c.peril, .int .i64 c.voluntary, .int .i64 c.reasonable, .int .i64 c.result, .string c.to] 26 0 (.string c.code) rfl
  have d1 := made_cell w #[.string c.code, .int .i64 c.kind, .int .i64 c.peril, .int .i64 c.voluntary, .int .i64 c.reasonable, .int .i64 c.result, .string c.to] 26 1 (.int .i64 c.kind) rfl
  have d2 := made_cell w #[.string c.code, .int .i64 c.kind, .int .i64 c.peril, .int .i64 c.voluntary, .int .i64 c.reasonable, .int .i64 c.result, .string c.to] 26 2 (.int .i64 c.peril) rfl
  have d3 := made_cell w #[.string c.code, .int .i64 c.kind, .int .i64 c.peril, .int .i64 c.voluntary, .int .i64 c.reasonable, .int .i64 c.result, .string c.to] 26 3 (.int .i64 c.voluntary) rfl
  have d4 := made_cell w #[.string c.code, .int .i64 c.kind, .int .i64 c.peril, .int .i64 c.voluntary, .int .i64 c.reasonable, .int .i64 c.result, .string c.to] 26 4 (.int .i64 c.reasonable) rfl
  have d5 := made_cell w #[.string c.code, .int .i64 c.kind, .int .i64 c.peril, .int .i64 c.voluntary, .int .i64 c.reasonable, .int .i64 c.result, .string c.to] 26 5 (.int .i64 c.result) rfl
  have d6 := made_cell w #[.string c.code, .int .i64 c.kind, .int .i64 c.peril, .int .i64 c.voluntary, .int .i64 c.reasonable, .int .i64 c.result, .string c.to] 26 6 (.string c.to) rfl
  have hp : c.code.size ≤ maxLen := by unfold Clause.tiny at hs; unfold maxLen; omega
  have hp2 : c.to.size ≤ maxLen := by unfold Clause.tiny at hs; unfold maxLen; omega
  go_enter Try.func16, Try.ntmps16
  go_wp2_with fail
  refine (code_spec_any _ hp _).mono ?_
  rintro e w1 ⟨rfl, rfl⟩
  cases h0 : isCode c.code
  · skip
    go_wp2
    go_ret
    exact ⟨ret_b (by try unfold Clause.okB; try unfold Clause.toB; try unfold sEq; simp [*]), B⟩
  · skip
    go_wp2_with fail
    refine (l01In_any _ _ _ _).mono ?_
    rintro e w2 ⟨rfl, rfl⟩
    cases h1 : inB c.kind (-1) 6
    · skip
      go_wp2
      go_ret
      exact ⟨ret_b (by try unfold Clause.okB; try unfold Clause.toB; try unfold sEq; simp [*]), B⟩
    · skip
      go_wp2_with fail
      refine (need_spec _ _).mono ?_
      rintro e w3 ⟨rfl, rfl⟩
      cases h2 : isNeed c.peril
      · skip
        go_wp2
        go_ret
        exact ⟨ret_b (by try unfold Clause.okB; try unfold Clause.toB; try unfold sEq; simp [*]), B⟩
      · skip
        go_wp2_with fail
        refine (need_spec _ _).mono ?_
        rintro e w4 ⟨rfl, rfl⟩
        cases h3 : isNeed c.voluntary
        · skip
          go_wp2
          go_ret
          exact ⟨ret_b (by try unfold Clause.okB; try unfold Clause.toB; try unfold sEq; simp [*]), B⟩
        · skip
          go_wp2_with fail
          refine (need_spec _ _).mono ?_
          rintro e w5 ⟨rfl, rfl⟩
          cases h4 : isNeed c.reasonable
          · skip
            go_wp2
            go_ret
            exact ⟨ret_b (by try unfold Clause.okB; try unfold Clause.toB; try unfold sEq; simp [*]), B⟩
          · skip
            go_wp2_with fail
            refine (l01In_any _ _ _ _).mono ?_
            rintro e w6 ⟨rfl, rfl⟩
            cases h5 : inB c.result 0 3
            · skip
              go_wp2
              go_ret
              exact ⟨ret_b (by try unfold Clause.okB; try unfold Clause.toB; try unfold sEq; simp [*]), B⟩
            · skip
              cases h6 : (c.result == 3)
              · skip
                go_wp2
                go_ret
                exact ⟨ret_b (by try unfold Clause.okB; try unfold Clause.toB; try unfold sEq; simp [*]), B⟩
              · skip
                go_wp2_with fail
                refine (code_spec_any _ hp2 _).mono ?_
                rintro e w7 ⟨rfl, rfl⟩
                cases h7 : isCode c.to
                · skip
                  go_wp2
                  go_ret
                  exact ⟨ret_b (by try unfold Clause.okB; try unfold Clause.toB; try unfold sEq; simp [*]), B⟩
                · skip
                  go_wp2
                  go_ret
                  exact ⟨ret_b (by try unfold Clause.okB; try unfold Clause.toB; try unfold sEq; simp [*]), B⟩

set_option maxHeartbeats 8000000 in
theorem isClause_impl (c : Clause) (hs : c.tiny) (w : World) :
    Calls Try.prog 18 #[c.val] w fun e w' => e = .returned (.bool c.okB) ∧ Below w.heap.size w w' := by
  have B := (Below.refl w.heap.size w).alloc (Nat.le_refl _) (.cells #[.string c.code, .int .i64 c.kind, .int .i64 c.peril, .int .i64 c.voluntary, .int .i64 c.reasonable, .int .i64 c.result, .string c.to] 26)
  have d0 := made_cell w #[.string c.code, .int .i64 c.kind, .int .i64 c.peril, .int .i64 c.voluntary, .int .i64 c.reasonable, .int .i64 c.result, .string c.to] 26 0 (.string c.code) rfl
  have d1 := made_cell w #[.string c.code, .int .i64 c.kind, .int .i64 c.peril, .int .i64 c.voluntary, .int .i64 c.reasonable, .int .i64 c.result, .string c.to] 26 1 (.int .i64 c.kind) rfl
  have d2 := made_cell w #[.string c.code, .int .i64 c.kind, .int .i64 c.peril, .int .i64 c.voluntary, .int .i64 c.reasonable, .int .i64 c.result, .string c.to] 26 2 (.int .i64 c.peril) rfl
  have d3 := made_cell w #[.string c.code, .int .i64 c.kind, .int .i64 c.peril, .int .i64 c.voluntary, .int .i64 c.reasonable, .int .i64 c.result, .string c.to] 26 3 (.int .i64 c.voluntary) rfl
  have d4 := made_cell w #[.string c.code, .int .i64 c.kind, .int .i64 c.peril, .int .i64 c.voluntary, .int .i64 c.reasonable, .int .i64 c.result, .string c.to] 26 4 (.int .i64 c.reasonable) rfl
  have d5 := made_cell w #[.string c.code, .int .i64 c.kind, .int .i64 c.peril, .int .i64 c.voluntary, .int .i64 c.reasonable, .int .i64 c.result, .string c.to] 26 5 (.int .i64 c.result) rfl
  have d6 := made_cell w #[.string c.code, .int .i64 c.kind, .int .i64 c.peril, .int .i64 c.voluntary, .int .i64 c.reasonable, .int .i64 c.result, .string c.to] 26 6 (.string c.to) rfl
  have hp : c.code.size ≤ maxLen := by unfold Clause.tiny at hs; unfold maxLen; omega
  have hp2 : c.to.size ≤ maxLen := by unfold Clause.tiny at hs; unfold maxLen; omega
  go_enter Try.func18, Try.ntmps18
  go_wp2_with fail
  refine (need_impl _ _).mono ?_
  rintro e w1 ⟨rfl, rfl⟩
  cases h0 : isNeed c.peril
  · skip
    cases h1 : (c.result == 3)
    · skip
      go_wp2_with fail
      refine (code_any _ hp _).mono ?_
      rintro e w2 ⟨rfl, rfl⟩
      cases h2 : isCode c.code
      · skip
        go_wp2
        go_ret
        exact ⟨ret_b (by try unfold Clause.okB; try unfold Clause.toB; try unfold sEq; simp [*]), B⟩
      · skip
        go_wp2_with fail
        refine (in_any _ _ _ _).mono ?_
        rintro e w3 ⟨rfl, rfl⟩
        cases h3 : inB c.kind (-1) 6
        · skip
          go_wp2
          go_ret
          exact ⟨ret_b (by try unfold Clause.okB; try unfold Clause.toB; try unfold sEq; simp [*]), B⟩
        · skip
          go_wp2
          go_ret
          exact ⟨ret_b (by try unfold Clause.okB; try unfold Clause.toB; try unfold sEq; simp [*]), B⟩
    · skip
      go_wp2_with fail
      refine (code_any _ hp2 _).mono ?_
      rintro e w2 ⟨rfl, rfl⟩
      cases h2 : isCode c.to
      · skip
        go_wp2_with fail
        refine (code_any _ hp _).mono ?_
        rintro e w3 ⟨rfl, rfl⟩
        cases h3 : isCode c.code
        · skip
          go_wp2
          go_ret
          exact ⟨ret_b (by try unfold Clause.okB; try unfold Clause.toB; try unfold sEq; simp [*]), B⟩
        · skip
          go_wp2_with fail
          refine (in_any _ _ _ _).mono ?_
          rintro e w4 ⟨rfl, rfl⟩
          cases h4 : inB c.kind (-1) 6
          · skip
            go_wp2
            go_ret
            exact ⟨ret_b (by try unfold Clause.okB; try unfold Clause.toB; try unfold sEq; simp [*]), B⟩
          · skip
            go_wp2
            go_ret
            exact ⟨ret_b (by try unfold Clause.okB; try unfold Clause.toB; try unfold sEq; simp [*]), B⟩
      · skip
        go_wp2_with fail
        refine (code_any _ hp _).mono ?_
        rintro e w3 ⟨rfl, rfl⟩
        cases h3 : isCode c.code
        · skip
          go_wp2
          go_ret
          exact ⟨ret_b (by try unfold Clause.okB; try unfold Clause.toB; try unfold sEq; simp [*]), B⟩
        · skip
          go_wp2_with fail
          refine (in_any _ _ _ _).mono ?_
          rintro e w4 ⟨rfl, rfl⟩
          cases h4 : inB c.kind (-1) 6
          · skip
            go_wp2
            go_ret
            exact ⟨ret_b (by try unfold Clause.okB; try unfold Clause.toB; try unfold sEq; simp [*]), B⟩
          · skip
            go_wp2
            go_ret
            exact ⟨ret_b (by try unfold Clause.okB; try unfold Clause.toB; try unfold sEq; simp [*]), B⟩
  · skip
    go_wp2_with fail
    refine (need_impl _ _).mono ?_
    rintro e w2 ⟨rfl, rfl⟩
    cases h1 : isNeed c.voluntary
    · skip
      cases h2 : (c.result == 3)
      · skip
        go_wp2_with fail
        refine (code_any _ hp _).mono ?_
        rintro e w3 ⟨rfl, rfl⟩
        cases h3 : isCode c.code
        · skip
          go_wp2
          go_ret
          exact ⟨ret_b (by try unfold Clause.okB; try unfold Clause.toB; try unfold sEq; simp [*]), B⟩
        · skip
          go_wp2_with fail
          refine (in_any _ _ _ _).mono ?_
          rintro e w4 ⟨rfl, rfl⟩
          cases h4 : inB c.kind (-1) 6
          · skip
            go_wp2
            go_ret
            exact ⟨ret_b (by try unfold Clause.okB; try unfold Clause.toB; try unfold sEq; simp [*]), B⟩
          · skip
            go_wp2
            go_ret
            exact ⟨ret_b (by try unfold Clause.okB; try unfold Clause.toB; try unfold sEq; simp [*]), B⟩
      · skip
        go_wp2_with fail
        refine (code_any _ hp2 _).mono ?_
        rintro e w3 ⟨rfl, rfl⟩
        cases h3 : isCode c.to
        · skip
          go_wp2_with fail
          refine (code_any _ hp _).mono ?_
          rintro e w4 ⟨rfl, rfl⟩
          cases h4 : isCode c.code
          · skip
            go_wp2
            go_ret
            exact ⟨ret_b (by try unfold Clause.okB; try unfold Clause.toB; try unfold sEq; simp [*]), B⟩
          · skip
            go_wp2_with fail
            refine (in_any _ _ _ _).mono ?_
            rintro e w5 ⟨rfl, rfl⟩
            cases h5 : inB c.kind (-1) 6
            · skip
              go_wp2
              go_ret
              exact ⟨ret_b (by try unfold Clause.okB; try unfold Clause.toB; try unfold sEq; simp [*]), B⟩
            · skip
              go_wp2
              go_ret
              exact ⟨ret_b (by try unfold Clause.okB; try unfold Clause.toB; try unfold sEq; simp [*]), B⟩
        · skip
          go_wp2_with fail
          refine (code_any _ hp _).mono ?_
          rintro e w4 ⟨rfl, rfl⟩
          cases h4 : isCode c.code
          · skip
            go_wp2
            go_ret
            exact ⟨ret_b (by try unfold Clause.okB; try unfold Clause.toB; try unfold sEq; simp [*]), B⟩
          · skip
            go_wp2_with fail
            refine (in_any _ _ _ _).mono ?_
            rintro e w5 ⟨rfl, rfl⟩
            cases h5 : inB c.kind (-1) 6
            · skip
              go_wp2
              go_ret
              exact ⟨ret_b (by try unfold Clause.okB; try unfold Clause.toB; try unfold sEq; simp [*]), B⟩
            · skip
              go_wp2
              go_ret
              exact ⟨ret_b (by try unfold Clause.okB; try unfold Clause.toB; try unfold sEq; simp [*]), B⟩
    · skip
      go_wp2_with fail
      refine (need_impl _ _).mono ?_
      rintro e w3 ⟨rfl, rfl⟩
      cases h2 : isNeed c.reasonable
      · skip
        cases h3 : (c.result == 3)
        · skip
          go_wp2_with fail
          refine (code_any _ hp _).mono ?_
          rintro e w4 ⟨rfl, rfl⟩
          cases h4 : isCode c.code
          · skip
            go_wp2
            go_ret
            exact ⟨ret_b (by try unfold Clause.okB; try unfold Clause.toB; try unfold sEq; simp [*]), B⟩
          · skip
            go_wp2_with fail
            refine (in_any _ _ _ _).mono ?_
            rintro e w5 ⟨rfl, rfl⟩
            cases h5 : inB c.kind (-1) 6
            · skip
              go_wp2
              go_ret
              exact ⟨ret_b (by try unfold Clause.okB; try unfold Clause.toB; try unfold sEq; simp [*]), B⟩
            · skip
              go_wp2
              go_ret
              exact ⟨ret_b (by try unfold Clause.okB; try unfold Clause.toB; try unfold sEq; simp [*]), B⟩
        · skip
          go_wp2_with fail
          refine (code_any _ hp2 _).mono ?_
          rintro e w4 ⟨rfl, rfl⟩
          cases h4 : isCode c.to
          · skip
            go_wp2_with fail
            refine (code_any _ hp _).mono ?_
            rintro e w5 ⟨rfl, rfl⟩
            cases h5 : isCode c.code
            · skip
              go_wp2
              go_ret
              exact ⟨ret_b (by try unfold Clause.okB; try unfold Clause.toB; try unfold sEq; simp [*]), B⟩
            · skip
              go_wp2_with fail
              refine (in_any _ _ _ _).mono ?_
              rintro e w6 ⟨rfl, rfl⟩
              cases h6 : inB c.kind (-1) 6
              · skip
                go_wp2
                go_ret
                exact ⟨ret_b (by try unfold Clause.okB; try unfold Clause.toB; try unfold sEq; simp [*]), B⟩
              · skip
                go_wp2
                go_ret
                exact ⟨ret_b (by try unfold Clause.okB; try unfold Clause.toB; try unfold sEq; simp [*]), B⟩
          · skip
            go_wp2_with fail
            refine (code_any _ hp _).mono ?_
            rintro e w5 ⟨rfl, rfl⟩
            cases h5 : isCode c.code
            · skip
              go_wp2
              go_ret
              exact ⟨ret_b (by try unfold Clause.okB; try unfold Clause.toB; try unfold sEq; simp [*]), B⟩
            · skip
              go_wp2_with fail
              refine (in_any _ _ _ _).mono ?_
              rintro e w6 ⟨rfl, rfl⟩
              cases h6 : inB c.kind (-1) 6
              · skip
                go_wp2
                go_ret
                exact ⟨ret_b (by try unfold Clause.okB; try unfold Clause.toB; try unfold sEq; simp [*]), B⟩
              · skip
                go_wp2
                go_ret
                exact ⟨ret_b (by try unfold Clause.okB; try unfold Clause.toB; try unfold sEq; simp [*]), B⟩
      · skip
        cases h3 : (c.result == 3)
        · skip
          go_wp2_with fail
          refine (code_any _ hp _).mono ?_
          rintro e w4 ⟨rfl, rfl⟩
          cases h4 : isCode c.code
          · skip
            go_wp2
            go_ret
            exact ⟨ret_b (by try unfold Clause.okB; try unfold Clause.toB; try unfold sEq; simp [*]), B⟩
          · skip
            go_wp2_with fail
            refine (in_any _ _ _ _).mono ?_
            rintro e w5 ⟨rfl, rfl⟩
            cases h5 : inB c.kind (-1) 6
            · skip
              go_wp2
              go_ret
              exact ⟨ret_b (by try unfold Clause.okB; try unfold Clause.toB; try unfold sEq; simp [*]), B⟩
            · skip
              go_wp2_with fail
              refine (in_any _ _ _ _).mono ?_
              rintro e w6 ⟨rfl, rfl⟩
              cases h6 : inB c.result 0 3
              · skip
                go_wp2
                go_ret
                exact ⟨ret_b (by try unfold Clause.okB; try unfold Clause.toB; try unfold sEq; simp [*]), B⟩
              · skip
                go_wp2
                go_ret
                exact ⟨ret_b (by try unfold Clause.okB; try unfold Clause.toB; try unfold sEq; simp [*]), B⟩
        · skip
          go_wp2_with fail
          refine (code_any _ hp2 _).mono ?_
          rintro e w4 ⟨rfl, rfl⟩
          cases h4 : isCode c.to
          · skip
            go_wp2_with fail
            refine (code_any _ hp _).mono ?_
            rintro e w5 ⟨rfl, rfl⟩
            cases h5 : isCode c.code
            · skip
              go_wp2
              go_ret
              exact ⟨ret_b (by try unfold Clause.okB; try unfold Clause.toB; try unfold sEq; simp [*]), B⟩
            · skip
              go_wp2_with fail
              refine (in_any _ _ _ _).mono ?_
              rintro e w6 ⟨rfl, rfl⟩
              cases h6 : inB c.kind (-1) 6
              · skip
                go_wp2
                go_ret
                exact ⟨ret_b (by try unfold Clause.okB; try unfold Clause.toB; try unfold sEq; simp [*]), B⟩
              · skip
                go_wp2_with fail
                refine (in_any _ _ _ _).mono ?_
                rintro e w7 ⟨rfl, rfl⟩
                cases h7 : inB c.result 0 3
                · skip
                  go_wp2
                  go_ret
                  exact ⟨ret_b (by try unfold Clause.okB; try unfold Clause.toB; try unfold sEq; simp [*]), B⟩
                · skip
                  go_wp2
                  go_ret
                  exact ⟨ret_b (by try unfold Clause.okB; try unfold Clause.toB; try unfold sEq; simp [*]), B⟩
          · skip
            go_wp2_with fail
            refine (code_any _ hp _).mono ?_
            rintro e w5 ⟨rfl, rfl⟩
            cases h5 : isCode c.code
            · skip
              go_wp2
              go_ret
              exact ⟨ret_b (by try unfold Clause.okB; try unfold Clause.toB; try unfold sEq; simp [*]), B⟩
            · skip
              go_wp2_with fail
              refine (in_any _ _ _ _).mono ?_
              rintro e w6 ⟨rfl, rfl⟩
              cases h6 : inB c.kind (-1) 6
              · skip
                go_wp2
                go_ret
                exact ⟨ret_b (by try unfold Clause.okB; try unfold Clause.toB; try unfold sEq; simp [*]), B⟩
              · skip
                go_wp2_with fail
                refine (in_any _ _ _ _).mono ?_
                rintro e w7 ⟨rfl, rfl⟩
                cases h7 : inB c.result 0 3
                · skip
                  go_wp2
                  go_ret
                  exact ⟨ret_b (by try unfold Clause.okB; try unfold Clause.toB; try unfold sEq; simp [*]), B⟩
                · skip
                  go_wp2
                  go_ret
                  exact ⟨ret_b (by try unfold Clause.okB; try unfold Clause.toB; try unfold sEq; simp [*]), B⟩
end Go.Proofs.Ythhfhdekhgkcaaa
