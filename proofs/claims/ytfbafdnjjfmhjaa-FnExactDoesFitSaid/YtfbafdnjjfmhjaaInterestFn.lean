/-
  Interests: IsInterest on both sides.
-/
import Derived.Test.YtfbafdnjjfmhjaaInterest
import Derived.Test.YtfbafdnjjfmhjaaEventFn
namespace Go.Proofs.Ytfbafdnjjfmhjaa
open Go.RowKit

def Interest.ageB (x : Interest) : Bool := x.age == 0 || (x.kind == 0 && inB x.age 0 60)
theorem Interest.age_eq (x : Interest) : x.ageB = (inB x.age 0 60 && (x.kind == 0 || x.age == 0)) := by
  unfold Interest.ageB
  rw [Bool.eq_iff_iff]
  simp only [Bool.or_eq_true, Bool.and_eq_true, beq_iff_eq, inB_iff]
  omega
def Interest.okB (x : Interest) : Bool := isCode x.code && isCode x.owner && inB x.kind 0 3 && isAmount x.value && x.ageB
theorem Interest.ok_bd {x : Interest} (h : x.okB = true) : (0 ≤ x.kind ∧ x.kind ≤ 3) ∧ (0 ≤ x.value ∧ x.value ≤ 1000000000) ∧ (0 ≤ x.age ∧ x.age ≤ 60) := by
  simp only [Interest.okB, Bool.and_eq_true, isAmount, Interest.age_eq, inB_iff] at h; omega

set_option maxHeartbeats 2000000 in
theorem isInterest_spec (x : Interest) (hs : x.tiny) (w : World) :
    Calls Try.prog 124 #[x.val] w fun e w' => e = .returned (.bool x.okB) ∧ Below w.heap.size w w' := by
  have B := (Below.refl w.heap.size w).alloc (Nat.le_refl _) (.cells #[.string x.code, .int .i64 x.kind, .string x.owner, .int .i64 x.value, .int .i64 x.age] 110)
  have d0 := made_cell w #[.string x.code, .int .i64 x.kind, .string x.owner, .int .i64 x.value, .int .i64 x.age] 110 0 (.string x.code) rfl
  have d1 := made_cell w #[.string x.code, .int .i64 x.kind, .string x.owner, .int .i64 x.value, .int .i64 x.age] 110 1 (.int .i64 x.kind) rfl
  have d2 := made_cell w #[.string x.code, .int .i64 x.kind, .string x.owner, .int .i64 x.value, .int .i64 x.age] 110 2 (.string x.owner) rfl
  have d3 := made_cell w #[.string x.code, .int .i64 x.kind, .string x.owner, .int .i64 x.value, .int .i64 x.age] 110 3 (.int .i64 x.value) rfl
  have d4 := made_cell w #[.string x.code, .int .i64 x.kind, .string x.owner, .int .i64 x.value, .int .i64 x.age] 110 4 (.int .i64 x.age) rfl
  have hp : x.code.size ≤ maxLen := by unfold Interest.tiny at hs; unfold maxLen; omega
  have hp2 : x.owner.size ≤ maxLen := by unfold Interest.tiny at hs; unfold maxLen; omega
  go_enter Try.func124, Try.ntmps124
  go_wp2_with fail
  refine (code_spec_any _ hp _).mono ?_
  rintro e w1 ⟨rfl, rfl⟩
  cases h0 : isCode x.code
  · skip
    go_wp2
    go_ret
    exact ⟨ret_b (by unfold Interest.okB; rw [Interest.age_eq]; simp [*]), B⟩
  · skip
    go_wp2_with fail
    refine (code_spec_any _ hp2 _).mono ?_
    rintro e w2 ⟨rfl, rfl⟩
    cases h1 : isCode x.owner
    · skip
      go_wp2
      go_ret
      exact ⟨ret_b (by unfold Interest.okB; rw [Interest.age_eq]; simp [*]), B⟩
    · skip
      go_wp2_with fail
      refine (l01In_any _ _ _ _).mono ?_
      rintro e w3 ⟨rfl, rfl⟩
      cases h2 : inB x.kind 0 3
      · skip
        go_wp2
        go_ret
        exact ⟨ret_b (by unfold Interest.okB; rw [Interest.age_eq]; simp [*]), B⟩
      · skip
        go_wp2_with fail
        refine (amount_spec _ _).mono ?_
        rintro e w4 ⟨rfl, rfl⟩
        cases h3 : isAmount x.value
        · skip
          go_wp2
          go_ret
          exact ⟨ret_b (by unfold Interest.okB; rw [Interest.age_eq]; simp [*]), B⟩
        · skip
          go_wp2_with fail
          refine (l01In_any _ _ _ _).mono ?_
          rintro e w5 ⟨rfl, rfl⟩
          cases h4 : inB x.age 0 60
          · skip
            go_wp2
            go_ret
            exact ⟨ret_b (by unfold Interest.okB; rw [Interest.age_eq]; simp [*]), B⟩
          · skip
            cases h5 : (x.kind == 0)
            · skip
              cases h6 : (x.age == 0)
              · skip
                go_wp2
                go_ret
                exact ⟨ret_b (by unfold Interest.okB; rw [Interest.age_eq]; simp [*]), B⟩
              · skip
                go_wp2
                go_ret
                exact ⟨ret_b (by unfold Interest.okB; rw [Interest.age_eq]; simp [*]), B⟩
            · skip
              go_wp2
              go_ret
              exact ⟨ret_b (by unfold Interest.okB; rw [Interest.age_eq]; simp [*]), B⟩

set_option maxHeartbeats 2000000 in
theorem isInterest_impl (x : Interest) (hs : x.tiny) (w : World) :
    Calls Try.prog 113 #[x.val] w fun e w' => e = .returned (.bool x.okB) ∧ Below w.heap.size w w' := by
  have B := (Below.refl w.heap.size w).alloc (Nat.le_refl _) (.cells #[.string x.code, .int .i64 x.kind, .string x.owner, .int .i64 x.value, .int .i64 x.age] 110)
  have d0 := made_cell w #[.string x.code, .int .i64 x.kind, .string x.owner, .int .i64 x.value, .int .i64 x.age] 110 0 (.string x.code) rfl
  have d1 := made_cell w #[.string x.code, .int .i64 x.kind, .string x.owner, .int .i64 x.value, .int .i64 x.age] 110 1 (.int .i64 x.kind) rfl
  have d2 := made_cell w #[.string x.code, .int .i64 x.kind, .string x.owner, .int .i64 x.value, .int .i64 x.age] 110 2 (.string x.owner) rfl
  have d3 := made_cell w #[.string x.code, .int .i64 x.kind, .string x.owner, .int .i64 x.value, .int .i64 x.age] 110 3 (.int .i64 x.value) rfl
  have d4 := made_cell w #[.string x.code, .int .i64 x.kind, .string x.owner, .int .i64 x.value, .int .i64 x.age] 110 4 (.int .i64 x.age) rfl
  have hp : x.code.size ≤ maxLen := by unfold Interest.tiny at hs; unfold maxLen; omega
  have hp2 : x.owner.size ≤ maxLen := by unfold Interest.tiny at hs; unfold maxLen; omega
  go_enter Try.func113, Try.ntmps113
  cases h0 : (x.age == 0)
  · skip
    cases h1 : (x.kind == 0)
    · skip
      go_wp2_with fail
      refine (code_any _ hp _).mono ?_
      rintro e w1 ⟨rfl, rfl⟩
      cases h2 : isCode x.code
      · skip
        go_wp2
        go_ret
        exact ⟨ret_b (by unfold Interest.okB Interest.ageB; simp [*]), B⟩
      · skip
        go_wp2_with fail
        refine (code_any _ hp2 _).mono ?_
        rintro e w2 ⟨rfl, rfl⟩
        cases h3 : isCode x.owner
        · skip
          go_wp2
          go_ret
          exact ⟨ret_b (by unfold Interest.okB Interest.ageB; simp [*]), B⟩
        · skip
          go_wp2_with fail
          refine (in_any _ _ _ _).mono ?_
          rintro e w3 ⟨rfl, rfl⟩
          cases h4 : inB x.kind 0 3
          · skip
            go_wp2
            go_ret
            exact ⟨ret_b (by unfold Interest.okB Interest.ageB; simp [*]), B⟩
          · skip
            go_wp2_with fail
            refine (amount_impl _ _).mono ?_
            rintro e w4 ⟨rfl, rfl⟩
            cases h5 : isAmount x.value
            · skip
              go_wp2
              go_ret
              exact ⟨ret_b (by unfold Interest.okB Interest.ageB; simp [*]), B⟩
            · skip
              go_wp2
              go_ret
              exact ⟨ret_b (by unfold Interest.okB Interest.ageB; simp [*]), B⟩
    · skip
      go_wp2_with fail
      refine (in_any _ _ _ _).mono ?_
      rintro e w1 ⟨rfl, rfl⟩
      cases h2 : inB x.age 0 60
      · skip
        go_wp2_with fail
        refine (code_any _ hp _).mono ?_
        rintro e w2 ⟨rfl, rfl⟩
        cases h3 : isCode x.code
        · skip
          go_wp2
          go_ret
          exact ⟨ret_b (by unfold Interest.okB Interest.ageB; simp [*]), B⟩
        · skip
          go_wp2_with fail
          refine (code_any _ hp2 _).mono ?_
          rintro e w3 ⟨rfl, rfl⟩
          cases h4 : isCode x.owner
          · skip
            go_wp2
            go_ret
            exact ⟨ret_b (by unfold Interest.okB Interest.ageB; simp [*]), B⟩
          · skip
            go_wp2_with fail
            refine (in_any _ _ _ _).mono ?_
            rintro e w4 ⟨rfl, rfl⟩
            cases h5 : inB x.kind 0 3
            · skip
              go_wp2
              go_ret
              exact ⟨ret_b (by unfold Interest.okB Interest.ageB; simp [*]), B⟩
            · skip
              go_wp2_with fail
              refine (amount_impl _ _).mono ?_
              rintro e w5 ⟨rfl, rfl⟩
              cases h6 : isAmount x.value
              · skip
                go_wp2
                go_ret
                exact ⟨ret_b (by unfold Interest.okB Interest.ageB; simp [*]), B⟩
              · skip
                go_wp2
                go_ret
                exact ⟨ret_b (by unfold Interest.okB Interest.ageB; simp [*]), B⟩
      · skip
        go_wp2_with fail
        refine (code_any _ hp _).mono ?_
        rintro e w2 ⟨rfl, rfl⟩
        cases h3 : isCode x.code
        · skip
          go_wp2
          go_ret
          exact ⟨ret_b (by unfold Interest.okB Interest.ageB; simp [*]), B⟩
        · skip
          go_wp2_with fail
          refine (code_any _ hp2 _).mono ?_
          rintro e w3 ⟨rfl, rfl⟩
          cases h4 : isCode x.owner
          · skip
            go_wp2
            go_ret
            exact ⟨ret_b (by unfold Interest.okB Interest.ageB; simp [*]), B⟩
          · skip
            go_wp2_with fail
            refine (in_any _ _ _ _).mono ?_
            rintro e w4 ⟨rfl, rfl⟩
            cases h5 : inB x.kind 0 3
            · skip
              go_wp2
              go_ret
              exact ⟨ret_b (by unfold Interest.okB Interest.ageB; simp [*]), B⟩
            · skip
              go_wp2_with fail
              refine (amount_impl _ _).mono ?_
              rintro e w5 ⟨rfl, rfl⟩
              cases h6 : isAmount x.value
              · skip
                go_wp2
                go_ret
                exact ⟨ret_b (by unfold Interest.okB Interest.ageB; simp [*]), B⟩
              · skip
                go_wp2
                go_ret
                exact ⟨ret_b (by unfold Interest.okB Interest.ageB; simp [*]), B⟩
  · skip
    go_wp2_with fail
    refine (code_any _ hp _).mono ?_
    rintro e w1 ⟨rfl, rfl⟩
    cases h1 : isCode x.code
    · skip
      go_wp2
      go_ret
      exact ⟨ret_b (by unfold Interest.okB Interest.ageB; simp [*]), B⟩
    · skip
      go_wp2_with fail
      refine (code_any _ hp2 _).mono ?_
      rintro e w2 ⟨rfl, rfl⟩
      cases h2 : isCode x.owner
      · skip
        go_wp2
        go_ret
        exact ⟨ret_b (by unfold Interest.okB Interest.ageB; simp [*]), B⟩
      · skip
        go_wp2_with fail
        refine (in_any _ _ _ _).mono ?_
        rintro e w3 ⟨rfl, rfl⟩
        cases h3 : inB x.kind 0 3
        · skip
          go_wp2
          go_ret
          exact ⟨ret_b (by unfold Interest.okB Interest.ageB; simp [*]), B⟩
        · skip
          go_wp2_with fail
          refine (amount_impl _ _).mono ?_
          rintro e w4 ⟨rfl, rfl⟩
          cases h4 : isAmount x.value
          · skip
            go_wp2
            go_ret
            exact ⟨ret_b (by unfold Interest.okB Interest.ageB; simp [*]), B⟩
          · skip
            go_wp2
            go_ret
            exact ⟨ret_b (by unfold Interest.okB Interest.ageB; simp [*]), B⟩

end Go.Proofs.Ytfbafdnjjfmhjaa
