/-
  FnExactIsClause: the law returns true for every input, and its arguments read afterwards as before. No condition beyond the row's own.
-/
import Derived.Test.YthhfhdekhgkcaaaClauseFn
import Derived.Test.YthhfhdekhgkcaaaClauseOpen
namespace Go.Proofs.Ythhfhdekhgkcaaa
open Go.RowKit Go.ChangeShapes Go.WideShapes Go.ChangeAt

set_option maxHeartbeats 4000000 in
set_option maxRecDepth 100000 in
theorem fnExactIsClause_walk (w : World) (a0 : Clause) (s0 : a0.small) :
    Calls Try.prog 3 #[a0.val] w fun e w' => e = .returned (.bool true) ∧ Below w.heap.size w w' := by
  have B := (Below.refl w.heap.size w).alloc (Nat.le_refl _) (.cells #[.string a0.code, .int .i64 a0.kind, .int .i64 a0.peril, .int .i64 a0.voluntary, .int .i64 a0.reasonable, .int .i64 a0.result, .string a0.to] 23)
  have d0_0 := made_cell w #[.string a0.code, .int .i64 a0.kind, .int .i64 a0.peril, .int .i64 a0.voluntary, .int .i64 a0.reasonable, .int .i64 a0.result, .string a0.to] 23 0 (.string a0.code) rfl
  have d0_1 := made_cell w #[.string a0.code, .int .i64 a0.kind, .int .i64 a0.peril, .int .i64 a0.voluntary, .int .i64 a0.reasonable, .int .i64 a0.result, .string a0.to] 23 1 (.int .i64 a0.kind) rfl
  have d0_2 := made_cell w #[.string a0.code, .int .i64 a0.kind, .int .i64 a0.peril, .int .i64 a0.voluntary, .int .i64 a0.reasonable, .int .i64 a0.result, .string a0.to] 23 2 (.int .i64 a0.peril) rfl
  have d0_3 := made_cell w #[.string a0.code, .int .i64 a0.kind, .int .i64 a0.peril, .int .i64 a0.voluntary, .int .i64 a0.reasonable, .int .i64 a0.result, .string a0.to] 23 3 (.int .i64 a0.voluntary) rfl
  have d0_4 := made_cell w #[.string a0.code, .int .i64 a0.kind, .int .i64 a0.peril, .int .i64 a0.voluntary, .int .i64 a0.reasonable, .int .i64 a0.result, .string a0.to] 23 4 (.int .i64 a0.reasonable) rfl
  have d0_5 := made_cell w #[.string a0.code, .int .i64 a0.kind, .int .i64 a0.peril, .int .i64 a0.voluntary, .int .i64 a0.reasonable, .int .i64 a0.result, .string a0.to] 23 5 (.int .i64 a0.result) rfl
  have d0_6 := made_cell w #[.string a0.code, .int .i64 a0.kind, .int .i64 a0.peril, .int .i64 a0.voluntary, .int .i64 a0.reasonable, .int .i64 a0.result, .string a0.to] 23 6 (.string a0.to) rfl
  have S : w.heap.size + 1 ≤ (w.alloc (.cells #[.string a0.code, .int .i64 a0.kind, .int .i64 a0.peril, .int .i64 a0.voluntary, .int .i64 a0.reasonable, .int .i64 a0.result, .string a0.to] 23)).heap.size := by simp
  go_enter Try.func3, Try.ntmps3
  go_wp2_with fail
  refine (szClause_any a0 _ s0 (by first | decide | omega) (by first | decide | omega) _).mono ?_
  rintro e w1 ⟨r0, rfl, hr1, hr0, hr3, hb⟩
  replace d0_0 := below_cell hb d0_0
  replace d0_1 := below_cell hb d0_1
  replace d0_2 := below_cell hb d0_2
  replace d0_3 := below_cell hb d0_3
  replace d0_4 := below_cell hb d0_4
  replace d0_5 := below_cell hb d0_5
  replace d0_6 := below_cell hb d0_6
  replace S := Nat.le_trans S hb.size
  replace B := B.trans (hb.mono B.size)
  clear hb
  by_cases hr : r0 < 0
  · go_wp2
    go_ret
    exact ⟨rfl, B⟩
  replace hr : 0 ≤ r0 := by omega
  have t0 := hr3.out hr
  clear hr1 hr3
  go_wp2_with fail
  refine (toClause_any a0 _).mono ?_
  rintro e w2 ⟨rfl, hb⟩
  replace d0_0 := below_cell hb d0_0
  replace d0_1 := below_cell hb d0_1
  replace d0_2 := below_cell hb d0_2
  replace d0_3 := below_cell hb d0_3
  replace d0_4 := below_cell hb d0_4
  replace d0_5 := below_cell hb d0_5
  replace d0_6 := below_cell hb d0_6
  replace S := Nat.le_trans S hb.size
  replace B := B.trans (hb.mono B.size)
  clear hb
  go_wp2_with fail
  refine (isClause_spec a0 t0 _).mono ?_
  rintro e w3 ⟨rfl, hb⟩
  replace d0_0 := below_cell hb d0_0
  replace d0_1 := below_cell hb d0_1
  replace d0_2 := below_cell hb d0_2
  replace d0_3 := below_cell hb d0_3
  replace d0_4 := below_cell hb d0_4
  replace d0_5 := below_cell hb d0_5
  replace d0_6 := below_cell hb d0_6
  replace S := Nat.le_trans S hb.size
  replace B := B.trans (hb.mono B.size)
  clear hb
  go_wp2_with fail
  refine (toClause_any a0 _).mono ?_
  rintro e w4 ⟨rfl, hb⟩
  replace d0_0 := below_cell hb d0_0
  replace d0_1 := below_cell hb d0_1
  replace d0_2 := below_cell hb d0_2
  replace d0_3 := below_cell hb d0_3
  replace d0_4 := below_cell hb d0_4
  replace d0_5 := below_cell hb d0_5
  replace d0_6 := below_cell hb d0_6
  replace S := Nat.le_trans S hb.size
  replace B := B.trans (hb.mono B.size)
  clear hb
  go_wp2_with fail
  refine (isClause_impl a0 t0 _).mono ?_
  rintro e w5 ⟨rfl, hb⟩
  replace d0_0 := below_cell hb d0_0
  replace d0_1 := below_cell hb d0_1
  replace d0_2 := below_cell hb d0_2
  replace d0_3 := below_cell hb d0_3
  replace d0_4 := below_cell hb d0_4
  replace d0_5 := below_cell hb d0_5
  replace d0_6 := below_cell hb d0_6
  replace S := Nat.le_trans S hb.size
  replace B := B.trans (hb.mono B.size)
  clear hb
  go_wp2
  go_ret
  exact ⟨rfl, B⟩

/-! ### FnExactIsClause: from the walk to the given statement -/
set_option maxRecDepth 100000 in
theorem fnExactIsClause_lifted (os : Os) (started : os.Started) (H : Type) (enc : TypeId × Value → H) :
    ReturnsInHanded {} Try.checked os 3 .any (Rows.fnExactIsClauseSpec.pre6 enc Try.prog Try.f3 Rows.fnExactIsClauseRow.domain false) (Rows.fnExactIsClauseSpec.post enc Try.prog Try.f3 false true false false) := by
  refine returnsInHanded_of_change (C := Try.checked) own started (by kernel_rfl) Try.func3
    (ChangeSpec.witness6 (enc := enc) (C := Try.checked) false ⟨#[], #[.agg #[.string ⟨#[]⟩, .int .i64 0, .int .i64 0, .int .i64 0, .int .i64 0, .int .i64 0, .string ⟨#[]⟩]], []⟩ 8 (by kernel_rfl) (by kernel_rfl) (by kernel_rfl) (by kernel_rfl)) ?_
  intro W base args ds gs before hval0 hW hcnd _
  have hval : ∀ (j : Nat) t v, Try.f3.params[j]? = some t → args[j]? = some v → Value.okWide Try.prog W .any base t v := hval0
  have hW' := hW
  obtain ⟨p, q, hA0, hV, rfl, hfz, hnd⟩ := hW
  have hA : DataW.TrodAll enc Try.prog W 0 (fun _ => true) true Try.f3.params.toList args.toList ds p := hA0
  rw [Try.params3] at hA hval
  obtain ⟨v0, vs0, d0, ds0, p0, q0, hargs, rfl, rfl, h0, r0⟩ := trodAll_cons hA
  obtain ⟨rfl, rfl, rfl⟩ := trodAll_nil r0
  obtain rfl : args = #[v0] := by cases args; simp_all
  obtain ⟨rfl, rfl⟩ := trodVars_none hV
  have k0 := h0
  have lt0 : ∀ x ∈ p0, x.block < W.heap.size := by obtain ⟨m, hm⟩ := k0; exact DataW.trod_lt m _ _ _ hm
  obtain ⟨a0, e0, s0⟩ := Clause.open_val (hval 0 23 v0 rfl rfl) h0
  subst e0
  clear hA0 hval0
  refine (fnExactIsClause_walk W a0 s0).mono fun e W' ⟨he, bel⟩ => ?_
  subst he
  exact ⟨_, rfl, _, _, _, [], _, [], hW', trodAll_mk1 (shut_bool Try.underlying4 _), (trodAll_cons_mk (Below.trod laidOut (by kernel_rfl) (of_decide_eq_true (by kernel_rfl)) k0 bel lt0) trodAll_mk0), rfl, bel.frame _, fun h => by cases h⟩

theorem fnExactIsClause_over : Rows.fnExactIsClauseRow.holds Try.pinned (OpenSpec.ofChange Rows.fnExactIsClauseSpec) :=
  OpenClaim.holds_of_wide 3 Try.f3 rfl rfl rfl rfl rfl rfl rfl ⟨rfl, rfl, rfl, rfl, rfl⟩ rfl rfl rfl rfl rfl (by kernel_rfl) Try.func3 (by kernel_rfl)
    (of_decide_eq_true (by kernel_rfl)) (by unfold Func.isWrapper; first | (rw [if_pos (by decide +kernel)]; kernel_rfl) | (rw [if_neg (by decide +kernel)]; exact ⟨rfl, rfl⟩))
    (fun os started H enc _ => fnExactIsClause_lifted os started H enc)

theorem fnExactIsClause_holds : Rows.FnExactIsClauseSaid := fnExactIsClause_over
#print axioms fnExactIsClause_holds
end Go.Proofs.Ythhfhdekhgkcaaa
