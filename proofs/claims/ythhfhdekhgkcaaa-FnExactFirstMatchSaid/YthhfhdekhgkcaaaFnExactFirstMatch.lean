/-
  FnExactFirstMatch: the law returns true for every input, and its arguments read afterwards as before. No condition beyond the row's own.
-/
import Derived.Test.YthhfhdekhgkcaaaRuleFind
import Derived.Test.YthhfhdekhgkcaaaMore
import Derived.Test.YthhfhdekhgkcaaaClauseOpen
import Derived.Test.YthhfhdekhgkcaaaEventOpen
namespace Go.Proofs.Ythhfhdekhgkcaaa
open Go.RowKit Go.ChangeShapes Go.WideShapes Go.ChangeAt

set_option maxHeartbeats 8000000 in
set_option maxRecDepth 100000 in
theorem fnExactFirstMatch_walk (w : World) (A0 : Option Addr) (cap0 : Nat) (L0 : List Clause) (w0 : Clause.At w A0 L0) (s0 : ∀ s ∈ L0, s.small) (m0 : L0.length ≤ 9223372036854775807) (a1 : Int) (_b1 : -9223372036854775808 ≤ a1 ∧ a1 ≤ 9223372036854775807) (a2 : Event) (s2 : a2.small) :
    Calls Try.prog 8 #[.slice A0 L0.length cap0, .int .i64 a1, a2.val] w fun e w' => e = .returned (.bool true) ∧ Below w.heap.size w w' := by
  have B := (Below.refl w.heap.size w).alloc (Nat.le_refl _) (.cells #[.int .i64 a2.day, .int .i64 a2.kind, .string a2.interest, .int .i64 a2.amount, .bool a2.peril, .bool a2.voluntary, .bool a2.reasonable] 30)
  have d2_0 := made_cell w #[.int .i64 a2.day, .int .i64 a2.kind, .string a2.interest, .int .i64 a2.amount, .bool a2.peril, .bool a2.voluntary, .bool a2.reasonable] 30 0 (.int .i64 a2.day) rfl
  have d2_1 := made_cell w #[.int .i64 a2.day, .int .i64 a2.kind, .string a2.interest, .int .i64 a2.amount, .bool a2.peril, .bool a2.voluntary, .bool a2.reasonable] 30 1 (.int .i64 a2.kind) rfl
  have d2_2 := made_cell w #[.int .i64 a2.day, .int .i64 a2.kind, .string a2.interest, .int .i64 a2.amount, .bool a2.peril, .bool a2.voluntary, .bool a2.reasonable] 30 2 (.string a2.interest) rfl
  have d2_3 := made_cell w #[.int .i64 a2.day, .int .i64 a2.kind, .string a2.interest, .int .i64 a2.amount, .bool a2.peril, .bool a2.voluntary, .bool a2.reasonable] 30 3 (.int .i64 a2.amount) rfl
  have d2_4 := made_cell w #[.int .i64 a2.day, .int .i64 a2.kind, .string a2.interest, .int .i64 a2.amount, .bool a2.peril, .bool a2.voluntary, .bool a2.reasonable] 30 4 (.bool a2.peril) rfl
  have d2_5 := made_cell w #[.int .i64 a2.day, .int .i64 a2.kind, .string a2.interest, .int .i64 a2.amount, .bool a2.peril, .bool a2.voluntary, .bool a2.reasonable] 30 5 (.bool a2.voluntary) rfl
  have d2_6 := made_cell w #[.int .i64 a2.day, .int .i64 a2.kind, .string a2.interest, .int .i64 a2.amount, .bool a2.peril, .bool a2.voluntary, .bool a2.reasonable] 30 6 (.bool a2.reasonable) rfl
  have S : w.heap.size + 1 ≤ (w.alloc (.cells #[.int .i64 a2.day, .int .i64 a2.kind, .string a2.interest, .int .i64 a2.amount, .bool a2.peril, .bool a2.voluntary, .bool a2.reasonable] 30)).heap.size := by simp
  go_enter Try.func8, Try.ntmps8
  go_wp2_with fail
  refine (szClauseS_any A0 cap0 L0 _ _ (w0.below B) s0 m0 (by omega) (by omega)).mono ?_
  rintro e w1 ⟨r0, rfl, hr1, hr0, hr3, hb⟩
  replace d2_0 := below_cell hb d2_0
  replace d2_1 := below_cell hb d2_1
  replace d2_2 := below_cell hb d2_2
  replace d2_3 := below_cell hb d2_3
  replace d2_4 := below_cell hb d2_4
  replace d2_5 := below_cell hb d2_5
  replace d2_6 := below_cell hb d2_6
  replace S := Nat.le_trans S hb.size
  replace B := B.trans (hb.mono B.size)
  clear hb
  by_cases hr : r0 < 0
  · go_wp2
    go_ret
    exact ⟨rfl, B⟩
  replace hr : 0 ≤ r0 := by omega
  have t0 := hr3.out hr
  clear hr1 hr3
  go_wp2_with fail
  refine (szEvent_any a2 _ s2 (by first | decide | omega) (by first | decide | omega) _).mono ?_
  rintro e w2 ⟨r2, rfl, hr1, hr2, hr3, hb⟩
  replace d2_0 := below_cell hb d2_0
  replace d2_1 := below_cell hb d2_1
  replace d2_2 := below_cell hb d2_2
  replace d2_3 := below_cell hb d2_3
  replace d2_4 := below_cell hb d2_4
  replace d2_5 := below_cell hb d2_5
  replace d2_6 := below_cell hb d2_6
  replace S := Nat.le_trans S hb.size
  replace B := B.trans (hb.mono B.size)
  clear hb
  by_cases hr : r2 < 0
  · go_wp2
    go_ret
    exact ⟨rfl, B⟩
  replace hr : 0 ≤ r2 := by omega
  have t2 := hr3.out hr
  clear hr1 hr3
  go_upto_region 8 with (fail)
  have R := Below.refl w2.heap.size w2
  have e1_0 := d2_0
  have e1_1 := d2_1
  have e1_2 := d2_2
  have e1_3 := d2_3
  have e1_4 := d2_4
  have e1_5 := d2_5
  have e1_6 := d2_6
  go_cut [8, 9] from 23 to 31 (fun sa sb wx => sa = .int .i64 (firstR L0 a1 a2).1 ∧ sb = .int .i64 (firstR L0 a1 a2).2 ∧ Below w2.heap.size w2 wx)
  case first =>
    go_region_law (first | (go_simp; go_at_call 27; refine (toClauseS_some A0 cap0 L0 _ (by first | exact w0.below (B.trans (R.mono B.size)) | exact w0.below (B.trans ((R.drew).mono B.size))) t0.1).mono ?_; rintro e wa ⟨gp, rfl, op, hb⟩; have R := (by first | exact R.trans (hb.mono R.size) | exact (R.drew).trans (hb.mono R.size) : Below w2.heap.size w2 wa); have hAp := Clause.At.of_own op; have hcp := own_caps op; have d2_0 := below_cell R e1_0; have d2_1 := below_cell R e1_1; have d2_2 := below_cell R e1_2; have d2_3 := below_cell R e1_3; have d2_4 := below_cell R e1_4; have d2_5 := below_cell R e1_5; have d2_6 := below_cell R e1_6; clear hb op) | (go_simp; go_at_call 21; refine (toEvent_any a2 _).mono ?_; rintro e wb ⟨rfl, hb⟩; have R := (by first | exact R.trans (hb.mono R.size) | exact (R.drew).trans (hb.mono R.size) : Below w2.heap.size w2 wb); try (have hAp := hAp.below hb); have d2_0 := below_cell R e1_0; have d2_1 := below_cell R e1_1; have d2_2 := below_cell R e1_2; have d2_3 := below_cell R e1_3; have d2_4 := below_cell R e1_4; have d2_5 := below_cell R e1_5; have d2_6 := below_cell R e1_6; clear hb) | (go_simp; go_at_call 32; refine (FirstMatch_spec _ _ L0 a1 a2 _ hAp t0.2 m0 t2).mono ?_; rintro e wd ⟨rfl, hb⟩; have R := (by first | exact R.trans (hb.mono R.size) | exact (R.drew).trans (hb.mono R.size) : Below w2.heap.size w2 wd); clear hb))
    all_goals (go_wp2_with fail; go_meet; exact ⟨rfl, rfl, R⟩)
  obtain ⟨rfl, rfl, hb⟩ := hcut
  clear R e1_0 e1_1 e1_2 e1_3 e1_4 e1_5 e1_6
  replace d2_0 := below_cell hb d2_0
  replace d2_1 := below_cell hb d2_1
  replace d2_2 := below_cell hb d2_2
  replace d2_3 := below_cell hb d2_3
  replace d2_4 := below_cell hb d2_4
  replace d2_5 := below_cell hb d2_5
  replace d2_6 := below_cell hb d2_6
  replace S := Nat.le_trans S hb.size
  replace B := B.trans (hb.mono B.size)
  clear hb
  go_wp2_with fail
  refine (toClauseS_some A0 cap0 L0 _ (w0.below B) t0.1).mono ?_
  rintro e w4 ⟨gx0, rfl, ox0, hb⟩
  have bs_ox0 := B.size
  have sz_ox0 := S
  replace d2_0 := below_cell hb d2_0
  replace d2_1 := below_cell hb d2_1
  replace d2_2 := below_cell hb d2_2
  replace d2_3 := below_cell hb d2_3
  replace d2_4 := below_cell hb d2_4
  replace d2_5 := below_cell hb d2_5
  replace d2_6 := below_cell hb d2_6
  replace S := Nat.le_trans S hb.size
  replace B := B.trans (hb.mono B.size)
  clear hb
  have hcp := own_caps ox0
  go_wp2_with fail
  refine (toEvent_any a2 _).mono ?_
  rintro e w5 ⟨rfl, hb⟩
  replace ox0 := own_below ox0 hb
  replace d2_0 := below_cell hb d2_0
  replace d2_1 := below_cell hb d2_1
  replace d2_2 := below_cell hb d2_2
  replace d2_3 := below_cell hb d2_3
  replace d2_4 := below_cell hb d2_4
  replace d2_5 := below_cell hb d2_5
  replace d2_6 := below_cell hb d2_6
  replace S := Nat.le_trans S hb.size
  replace B := B.trans (hb.mono B.size)
  clear hb
  go_wp2_with fail
  refine (FirstMatch_impl _ _ _ L0 a1 a2 _ (Clause.At.of_own ox0) t0.2 m0 t2 hcp.1 hcp.2).mono ?_
  rintro e w6 ⟨rfl, hb⟩
  replace ox0 := own_below ox0 hb
  replace d2_0 := below_cell hb d2_0
  replace d2_1 := below_cell hb d2_1
  replace d2_2 := below_cell hb d2_2
  replace d2_3 := below_cell hb d2_3
  replace d2_4 := below_cell hb d2_4
  replace d2_5 := below_cell hb d2_5
  replace d2_6 := below_cell hb d2_6
  replace S := Nat.le_trans S hb.size
  replace B := B.trans (hb.mono B.size)
  clear hb
  clear hcp
  go_wp2_with fail
  refine (toClauseS_any A0 cap0 L0 _ (w0.below B) t0.1).mono ?_
  rintro e w7 ⟨Ay0, cy0, rfl, oy0, hb⟩
  have ap_ox0_oy0 := Lib.hid (own_apart ox0 oy0 (Nat.le_refl _))
  have bs_oy0 := B.size
  have sz_oy0 := S
  replace ox0 := own_below ox0 hb
  replace d2_0 := below_cell hb d2_0
  replace d2_1 := below_cell hb d2_1
  replace d2_2 := below_cell hb d2_2
  replace d2_3 := below_cell hb d2_3
  replace d2_4 := below_cell hb d2_4
  replace d2_5 := below_cell hb d2_5
  replace d2_6 := below_cell hb d2_6
  replace S := Nat.le_trans S hb.size
  replace B := B.trans (hb.mono B.size)
  clear hb
  go_wp2_with fail
  refine (eqClauseS_same _ Ay0 _ cy0 L0 _ (Clause.At.of_own ox0) (Clause.At.of_own oy0) m0).mono ?_
  rintro e w8 ⟨rfl, hb⟩
  replace ox0 := own_below ox0 hb
  replace oy0 := own_below oy0 hb
  replace d2_0 := below_cell hb d2_0
  replace d2_1 := below_cell hb d2_1
  replace d2_2 := below_cell hb d2_2
  replace d2_3 := below_cell hb d2_3
  replace d2_4 := below_cell hb d2_4
  replace d2_5 := below_cell hb d2_5
  replace d2_6 := below_cell hb d2_6
  replace S := Nat.le_trans S hb.size
  replace B := B.trans (hb.mono B.size)
  clear hb
  go_wp2
  go_ret
  exact ⟨rfl, B⟩

/-! ### FnExactFirstMatch: from the walk to the given statement -/
set_option maxRecDepth 100000 in
theorem fnExactFirstMatch_lifted (os : Os) (started : os.Started) (H : Type) (enc : TypeId × Value → H) :
    ReturnsInHanded {} Try.checked os 8 .any (Rows.fnExactFirstMatchSpec.pre6 enc Try.prog Try.f8 Rows.fnExactFirstMatchRow.domain false) (Rows.fnExactFirstMatchSpec.post enc Try.prog Try.f8 false true false false) := by
  refine returnsInHanded_of_change (C := Try.checked) own started (by kernel_rfl) Try.func8
    (ChangeSpec.witness6 (enc := enc) (C := Try.checked) false ⟨#[], #[.slice none 0 0, .int .i64 0, .agg #[.int .i64 0, .int .i64 0, .string ⟨#[]⟩, .int .i64 0, .bool false, .bool false, .bool false]], []⟩ 8 (by kernel_rfl) (by kernel_rfl) (by kernel_rfl) (by kernel_rfl)) ?_
  intro W base args ds gs before hval0 hW hcnd _
  have hval : ∀ (j : Nat) t v, Try.f8.params[j]? = some t → args[j]? = some v → Value.okWide Try.prog W .any base t v := hval0
  have hW' := hW
  obtain ⟨p, q, hA0, hV, rfl, hfz, hnd⟩ := hW
  have hA : DataW.TrodAll enc Try.prog W 0 (fun _ => true) true Try.f8.params.toList args.toList ds p := hA0
  rw [Try.params8] at hA hval
  obtain ⟨v0, vs0, d0, ds0, p0, q0, hargs, rfl, rfl, h0, r0⟩ := trodAll_cons hA
  obtain ⟨v1, vs1, d1, ds1, p1, q1, rfl, rfl, rfl, h1, r1⟩ := trodAll_cons r0
  obtain ⟨v2, vs2, d2, ds2, p2, q2, rfl, rfl, rfl, h2, r2⟩ := trodAll_cons r1
  obtain ⟨rfl, rfl, rfl⟩ := trodAll_nil r2
  obtain rfl : args = #[v0, v1, v2] := by cases args; simp_all
  obtain ⟨rfl, rfl⟩ := trodVars_none hV
  have k0 := h0
  have lt0 : ∀ x ∈ p0, x.block < W.heap.size := by obtain ⟨m, hm⟩ := k0; exact DataW.trod_lt m _ _ _ hm
  obtain ⟨A0, len0, cap0, e0⟩ := okWide_slice Try.underlying39 (hval 0 39 v0 rfl rfl)
  subst e0
  obtain ⟨fuel0, hf0⟩ := h0
  obtain ⟨L0, l0, w0, s0, m0⟩ := Clause.open_slice (show DataW.trod enc Try.prog W 0 (fun _ => true) true fuel0 39 [.slice A0 len0 cap0] = some (d0, p0) by simpa [Value.cells] using hf0)
  subst l0
  have k1 := h1
  have lt1 : ∀ x ∈ p1, x.block < W.heap.size := by obtain ⟨m, hm⟩ := k1; exact DataW.trod_lt m _ _ _ hm
  obtain ⟨a1, e1, _, _, b1⟩ := open_int Try.underlying2 (hval 1 2 v1 rfl rfl) h1
  subst e1
  have b1 := wf_bd b1
  have k2 := h2
  have lt2 : ∀ x ∈ p2, x.block < W.heap.size := by obtain ⟨m, hm⟩ := k2; exact DataW.trod_lt m _ _ _ hm
  obtain ⟨a2, e2, s2⟩ := Event.open_val (hval 2 30 v2 rfl rfl) h2
  subst e2
  clear hA0 hval0
  refine (fnExactFirstMatch_walk W A0 cap0 L0 w0 s0 m0 a1 b1 a2 s2).mono fun e W' ⟨he, bel⟩ => ?_
  subst he
  exact ⟨_, rfl, _, _, _, [], _, [], hW', trodAll_mk1 (shut_bool Try.underlying4 _), (trodAll_cons_mk (Below.trod laidOut (by kernel_rfl) (of_decide_eq_true (by kernel_rfl)) k0 bel lt0) (trodAll_cons_mk (Below.trod laidOut (by kernel_rfl) (of_decide_eq_true (by kernel_rfl)) k1 bel lt1) (trodAll_cons_mk (Below.trod laidOut (by kernel_rfl) (of_decide_eq_true (by kernel_rfl)) k2 bel lt2) trodAll_mk0))), rfl, bel.frame _, fun h => by cases h⟩

theorem fnExactFirstMatch_over : Rows.fnExactFirstMatchRow.holds Try.pinned (OpenSpec.ofChange Rows.fnExactFirstMatchSpec) :=
  OpenClaim.holds_of_wide 8 Try.f8 rfl rfl rfl rfl rfl rfl rfl ⟨rfl, rfl, rfl, rfl, rfl⟩ rfl rfl rfl rfl rfl (by kernel_rfl) Try.func8 (by kernel_rfl)
    (of_decide_eq_true (by kernel_rfl)) (by unfold Func.isWrapper; first | (rw [if_pos (by decide +kernel)]; kernel_rfl) | (rw [if_neg (by decide +kernel)]; exact ⟨rfl, rfl⟩))
    (fun os started H enc _ => fnExactFirstMatch_lifted os started H enc)

theorem fnExactFirstMatch_holds : Rows.FnExactFirstMatchSaid := fnExactFirstMatch_over
#print axioms fnExactFirstMatch_holds
end Go.Proofs.Ythhfhdekhgkcaaa
