/-
  Amounts, kinds of events, IsEvent on both sides.
-/
import Derived.Test.YthhfhdekhgkcaaaEvent
namespace Go.Proofs.Ythhfhdekhgkcaaa
open Go.RowKit

def isAmount (n : Int) : Bool := inB n 0 1000000000
theorem isAmount_bd {n : Int} (h : isAmount n = true) : 0 ≤ n ∧ n ≤ 1000000000 := inB_iff.1 h

set_option maxHeartbeats 400000 in
theorem amount_spec (n : Int) (w : World) : Calls Try.prog 100 #[.int .i64 n] w fun e w' => e = .returned (.bool (isAmount n)) ∧ w = w' := by
  go_enter Try.func100, Try.ntmps100
  go_wp2_with fail
  refine (l01In_any _ _ _ _).mono ?_
  rintro e w' ⟨rfl, rfl⟩
  go_wp2
  go_ret
  exact ⟨rfl, rfl⟩
set_option maxHeartbeats 400000 in
theorem amount_impl (n : Int) (w : World) : Calls Try.prog 103 #[.int .i64 n] w fun e w' => e = .returned (.bool (isAmount n)) ∧ w = w' := by
  go_enter Try.func103, Try.ntmps103
  go_wp2_with fail
  refine (in_any _ _ _ _).mono ?_
  rintro e w' ⟨rfl, rfl⟩
  go_wp2
  go_ret
  exact ⟨rfl, rfl⟩
set_option maxHeartbeats 400000 in
theorem kind_impl (n : Int) (w : World) : Calls Try.prog 102 #[.int .i64 n] w fun e w' => e = .returned (.bool (inB n 0 6)) ∧ w = w' := by
  go_enter Try.func102, Try.ntmps102
  go_wp2_with fail
  refine (in_any _ _ _ _).mono ?_
  rintro e w' ⟨rfl, rfl⟩
  go_wp2
  go_ret
  exact ⟨rfl, rfl⟩

def Event.okB (e : Event) : Bool := isDay e.day && inB e.kind 0 6 && isCode e.interest && isAmount e.amount
theorem Event.ok_bd {e : Event} (h : e.okB = true) : (0 ≤ e.day ∧ e.day ≤ 36524) ∧ (0 ≤ e.kind ∧ e.kind ≤ 6) ∧ (0 ≤ e.amount ∧ e.amount ≤ 1000000000) := by
  simp only [Event.okB, Bool.and_eq_true, isDay, isAmount, inB_iff] at h; omega

set_option maxHeartbeats 1000000 in
theorem isEvent_spec (e : Event) (hs : e.tiny) (w : World) :
    Calls Try.prog 66 #[e.val] w fun e' w' => e' = .returned (.bool e.okB) ∧ Below w.heap.size w w' := by
  have B := (Below.refl w.heap.size w).alloc (Nat.le_refl _) (.cells #[.int .i64 e.day, .int .i64 e.kind, .string e.interest, .int .i64 e.amount, .bool e.peril, .bool e.voluntary, .bool e.reasonable] 34)
  have hp : e.interest.size ≤ maxLen := by unfold Event.tiny at hs; unfold maxLen; omega
  cases h0 : isDay e.day
  · skip
    go_enter Try.func66, Try.ntmps66
    go_wp2_with fail
    refine (calls_b h0 (l02Is_any _ _)).mono ?_
    rintro e w1 ⟨rfl, rfl⟩
    go_wp2
    go_ret
    exact ⟨ret_b (by simp [Event.okB, h0]), B⟩
  · skip
    cases h1 : inB e.kind 0 6
    · skip
      go_enter Try.func66, Try.ntmps66
      go_wp2_with fail
      refine (calls_b h0 (l02Is_any _ _)).mono ?_
      rintro e w1 ⟨rfl, rfl⟩
      go_wp2_with fail
      refine (calls_b h1 (l01In_any _ _ _ _)).mono ?_
      rintro e w2 ⟨rfl, rfl⟩
      go_wp2
      go_ret
      exact ⟨ret_b (by simp [Event.okB, h0, h1]), B⟩
    · skip
      cases h2 : isCode e.interest
      · skip
        go_enter Try.func66, Try.ntmps66
        go_wp2_with fail
        refine (calls_b h0 (l02Is_any _ _)).mono ?_
        rintro e w1 ⟨rfl, rfl⟩
        go_wp2_with fail
        refine (calls_b h1 (l01In_any _ _ _ _)).mono ?_
        rintro e w2 ⟨rfl, rfl⟩
        go_wp2_with fail
        refine (calls_b h2 (code_spec_any _ hp _)).mono ?_
        rintro e w3 ⟨rfl, rfl⟩
        go_wp2
        go_ret
        exact ⟨ret_b (by simp [Event.okB, h0, h1, h2]), B⟩
      · skip
        cases h3 : isAmount e.amount
        · skip
          go_enter Try.func66, Try.ntmps66
          go_wp2_with fail
          refine (calls_b h0 (l02Is_any _ _)).mono ?_
          rintro e w1 ⟨rfl, rfl⟩
          go_wp2_with fail
          refine (calls_b h1 (l01In_any _ _ _ _)).mono ?_
          rintro e w2 ⟨rfl, rfl⟩
          go_wp2_with fail
          refine (calls_b h2 (code_spec_any _ hp _)).mono ?_
          rintro e w3 ⟨rfl, rfl⟩
          go_wp2_with fail
          refine (calls_b h3 (amount_spec _ _)).mono ?_
          rintro e w4 ⟨rfl, rfl⟩
          go_wp2
          go_ret
          exact ⟨ret_b (by simp [Event.okB, h0, h1, h2, h3]), B⟩
        · skip
          go_enter Try.func66, Try.ntmps66
          go_wp2_with fail
          refine (calls_b h0 (l02Is_any _ _)).mono ?_
          rintro e w1 ⟨rfl, rfl⟩
          go_wp2_with fail
          refine (calls_b h1 (l01In_any _ _ _ _)).mono ?_
          rintro e w2 ⟨rfl, rfl⟩
          go_wp2_with fail
          refine (calls_b h2 (code_spec_any _ hp _)).mono ?_
          rintro e w3 ⟨rfl, rfl⟩
          go_wp2_with fail
          refine (calls_b h3 (amount_spec _ _)).mono ?_
          rintro e w4 ⟨rfl, rfl⟩
          go_wp2
          go_ret
          exact ⟨ret_b (by simp [Event.okB, h0, h1, h2, h3]), B⟩

set_option maxHeartbeats 1000000 in
theorem isEvent_impl (e : Event) (hs : e.tiny) (w : World) :
    Calls Try.prog 68 #[e.val] w fun e' w' => e' = .returned (.bool e.okB) ∧ Below w.heap.size w w' := by
  have B := (Below.refl w.heap.size w).alloc (Nat.le_refl _) (.cells #[.int .i64 e.day, .int .i64 e.kind, .string e.interest, .int .i64 e.amount, .bool e.peril, .bool e.voluntary, .bool e.reasonable] 34)
  have hp : e.interest.size ≤ maxLen := by unfold Event.tiny at hs; unfold maxLen; omega
  have d1 := made_cell w #[.int .i64 e.day, .int .i64 e.kind, .string e.interest, .int .i64 e.amount, .bool e.peril, .bool e.voluntary, .bool e.reasonable] 34 1 (.int .i64 e.kind) rfl
  have d2 := made_cell w #[.int .i64 e.day, .int .i64 e.kind, .string e.interest, .int .i64 e.amount, .bool e.peril, .bool e.voluntary, .bool e.reasonable] 34 2 (.string e.interest) rfl
  have d3 := made_cell w #[.int .i64 e.day, .int .i64 e.kind, .string e.interest, .int .i64 e.amount, .bool e.peril, .bool e.voluntary, .bool e.reasonable] 34 3 (.int .i64 e.amount) rfl
  cases h0 : isDay e.day
  · skip
    go_enter Try.func68, Try.ntmps68
    go_wp2_with fail
    refine (calls_b h0 (isDay_any _ _)).mono ?_
    rintro e w1 ⟨rfl, hb⟩
    replace B := B.trans (hb.mono B.size)
    replace d1 := below_cell hb d1
    replace d2 := below_cell hb d2
    replace d3 := below_cell hb d3
    clear hb
    go_wp2
    go_ret
    exact ⟨ret_b (by simp [Event.okB, h0]), B⟩
  · skip
    cases h1 : inB e.kind 0 6
    · skip
      go_enter Try.func68, Try.ntmps68
      go_wp2_with fail
      refine (calls_b h0 (isDay_any _ _)).mono ?_
      rintro e w1 ⟨rfl, hb⟩
      replace B := B.trans (hb.mono B.size)
      replace d1 := below_cell hb d1
      replace d2 := below_cell hb d2
      replace d3 := below_cell hb d3
      clear hb
      go_wp2_with fail
      refine (calls_b h1 (kind_impl _ _)).mono ?_
      rintro e w2 ⟨rfl, rfl⟩
      go_wp2
      go_ret
      exact ⟨ret_b (by simp [Event.okB, h0, h1]), B⟩
    · skip
      cases h2 : isCode e.interest
      · skip
        go_enter Try.func68, Try.ntmps68
        go_wp2_with fail
        refine (calls_b h0 (isDay_any _ _)).mono ?_
        rintro e w1 ⟨rfl, hb⟩
        replace B := B.trans (hb.mono B.size)
        replace d1 := below_cell hb d1
        replace d2 := below_cell hb d2
        replace d3 := below_cell hb d3
        clear hb
        go_wp2_with fail
        refine (calls_b h1 (kind_impl _ _)).mono ?_
        rintro e w2 ⟨rfl, rfl⟩
        go_wp2_with fail
        refine (calls_b h2 (code_any _ hp _)).mono ?_
        rintro e w3 ⟨rfl, rfl⟩
        go_wp2
        go_ret
        exact ⟨ret_b (by simp [Event.okB, h0, h1, h2]), B⟩
      · skip
        cases h3 : isAmount e.amount
        · skip
          go_enter Try.func68, Try.ntmps68
          go_wp2_with fail
          refine (calls_b h0 (isDay_any _ _)).mono ?_
          rintro e w1 ⟨rfl, hb⟩
          replace B := B.trans (hb.mono B.size)
          replace d1 := below_cell hb d1
          replace d2 := below_cell hb d2
          replace d3 := below_cell hb d3
          clear hb
          go_wp2_with fail
          refine (calls_b h1 (kind_impl _ _)).mono ?_
          rintro e w2 ⟨rfl, rfl⟩
          go_wp2_with fail
          refine (calls_b h2 (code_any _ hp _)).mono ?_
          rintro e w3 ⟨rfl, rfl⟩
          go_wp2_with fail
          refine (calls_b h3 (amount_impl _ _)).mono ?_
          rintro e w4 ⟨rfl, rfl⟩
          go_wp2
          go_ret
          exact ⟨ret_b (by simp [Event.okB, h0, h1, h2, h3]), B⟩
        · skip
          go_enter Try.func68, Try.ntmps68
          go_wp2_with fail
          refine (calls_b h0 (isDay_any _ _)).mono ?_
          rintro e w1 ⟨rfl, hb⟩
          replace B := B.trans (hb.mono B.size)
          replace d1 := below_cell hb d1
          replace d2 := below_cell hb d2
          replace d3 := below_cell hb d3
          clear hb
          go_wp2_with fail
          refine (calls_b h1 (kind_impl _ _)).mono ?_
          rintro e w2 ⟨rfl, rfl⟩
          go_wp2_with fail
          refine (calls_b h2 (code_any _ hp _)).mono ?_
          rintro e w3 ⟨rfl, rfl⟩
          go_wp2_with fail
          refine (calls_b h3 (amount_impl _ _)).mono ?_
          rintro e w4 ⟨rfl, rfl⟩
          go_wp2
          go_ret
          exact ⟨ret_b (by simp [Event.okB, h0, h1, h2, h3]), B⟩
end Go.Proofs.Ythhfhdekhgkcaaa
