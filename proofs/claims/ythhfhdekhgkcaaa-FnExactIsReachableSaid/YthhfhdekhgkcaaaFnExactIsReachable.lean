/-
  FnExactIsReachable: the law returns true for every input, and its arguments read afterwards as before. No condition beyond the row's own.
-/
import Derived.Test.YthhfhdekhgkcaaaReachFn
import Derived.Test.YthhfhdekhgkcaaaClauseOpen
namespace Go.Proofs.Ythhfhdekhgkcaaa
open Go.RowKit Go.ChangeShapes Go.WideShapes Go.ChangeAt

set_option maxHeartbeats 4000000 in
set_option maxRecDepth 100000 in
theorem fnExactIsReachable_walk (w : World) (A0 : Option Addr) (cap0 : Nat) (L0 : List Clause) (w0 : Clause.At w A0 L0) (s0 : ∀ s ∈ L0, s.small) (m0 : L0.length ≤ 9223372036854775807) (a1 : ByteArray) (s1 : a1.size ≤ maxLen) :
    Calls Try.prog 9 #[.slice A0 L0.length cap0, .string a1] w fun e w' => e = .returned (.bool true) ∧ Below w.heap.size w w' := by
  have B := Below.refl w.heap.size w
  by_cases hsz1 : 1048576 < (a1.size : Int)
  · go_enter Try.func9, Try.ntmps9
    go_wp2
    go_ret
    exact ⟨rfl, B⟩
  go_enter Try.func9, Try.ntmps9
  go_wp2_with fail
  refine (szClauseS_any A0 cap0 L0 _ _ (w0.below B) s0 m0 (by omega) (by omega)).mono ?_
  rintro e w1 ⟨r0, rfl, hr1, hr0, hr3, hb⟩
  replace B := B.trans (hb.mono B.size)
  clear hb
  by_cases hr : r0 < 0
  · go_wp2
    go_ret
    exact ⟨rfl, B⟩
  replace hr : 0 ≤ r0 := by omega
  have t0 := hr3.out hr
  clear hr1 hr3
  go_wp2_with fail
  refine (toClauseS_any A0 cap0 L0 _ (w0.below B) t0.1).mono ?_
  rintro e w2 ⟨Ap0, cp0, rfl, op0, hb⟩
  have bs_op0 := B.size
  replace B := B.trans (hb.mono B.size)
  clear hb
  go_wp2_with fail
  refine (IsReachable_spec Ap0 cp0 L0 a1 _ (Clause.At.of_own op0) t0.2 m0).mono ?_
  rintro e w3 ⟨rfl, hb⟩
  replace op0 := own_below op0 hb
  replace B := B.trans (hb.mono B.size)
  clear hb
  go_wp2_with fail
  refine (toClauseS_some A0 cap0 L0 _ (w0.below B) t0.1).mono ?_
  rintro e w4 ⟨gx0, rfl, ox0, hb⟩
  have bs_ox0 := B.size
  replace B := B.trans (hb.mono B.size)
  clear hb
  have hcp0 := own_caps ox0
  go_wp2_with fail
  refine (IsReachable_impl _ _ _ L0 a1 _ (Clause.At.of_own ox0) t0.2 m0 hcp0.1 hcp0.2).mono ?_
  rintro e w5 ⟨rfl, hb⟩
  replace ox0 := own_below ox0 hb
  replace B := B.trans (hb.mono B.size)
  clear hb
  clear hcp0
  go_wp2_with fail
  refine (toClauseS_any A0 cap0 L0 _ (w0.below B) t0.1).mono ?_
  rintro e w6 ⟨Ay0, cy0, rfl, oy0, hb⟩
  have ap_ox0_oy0 := Lib.hid (own_apart ox0 oy0 (Nat.le_refl _))
  have bs_oy0 := B.size
  replace ox0 := own_below ox0 hb
  replace B := B.trans (hb.mono B.size)
  clear hb
  go_wp2_with fail
  refine (eqClauseS_same _ Ay0 _ cy0 L0 _ (Clause.At.of_own ox0) (Clause.At.of_own oy0) m0).mono ?_
  rintro e w7 ⟨rfl, hb⟩
  replace ox0 := own_below ox0 hb
  replace oy0 := own_below oy0 hb
  replace B := B.trans (hb.mono B.size)
  clear hb
  go_wp2
  go_ret
  exact ⟨rfl, B⟩

/-! ### FnExactIsReachable: from the walk to the given statement -/
set_option maxRecDepth 100000 in
theorem fnExactIsReachable_lifted (os : Os) (started : os.Started) (H : Type) (enc : TypeId × Value → H) :
    ReturnsInHanded {} Try.checked os 9 .any (Rows.fnExactIsReachableSpec.pre6 enc Try.prog Try.f9 Rows.fnExactIsReachableRow.domain false) (Rows.fnExactIsReachableSpec.post enc Try.prog Try.f9 false true false false) := by
  refine returnsInHanded_of_change (C := Try.checked) own started (by kernel_rfl) Try.func9
    (ChangeSpec.witness6 (enc := enc) (C := Try.checked) false ⟨#[], #[.slice none 0 0, .string ⟨#[]⟩], []⟩ 8 (by kernel_rfl) (by kernel_rfl) (by kernel_rfl) (by kernel_rfl)) ?_
  intro W base args ds gs before hval0 hW hcnd _
  have hval : ∀ (j : Nat) t v, Try.f9.params[j]? = some t → args[j]? = some v → Value.okWide Try.prog W .any base t v := hval0
  have hW' := hW
  obtain ⟨p, q, hA0, hV, rfl, hfz, hnd⟩ := hW
  have hA : DataW.TrodAll enc Try.prog W 0 (fun _ => true) true Try.f9.params.toList args.toList ds p := hA0
  rw [Try.params9] at hA hval
  obtain ⟨v0, vs0, d0, ds0, p0, q0, hargs, rfl, rfl, h0, r0⟩ := trodAll_cons hA
  obtain ⟨v1, vs1, d1, ds1, p1, q1, rfl, rfl, rfl, h1, r1⟩ := trodAll_cons r0
  obtain ⟨rfl, rfl, rfl⟩ := trodAll_nil r1
  obtain rfl : args = #[v0, v1] := by cases args; simp_all
  obtain ⟨rfl, rfl⟩ := trodVars_none hV
  have k0 := h0
  have lt0 : ∀ x ∈ p0, x.block < W.heap.size := by obtain ⟨m, hm⟩ := k0; exact DataW.trod_lt m _ _ _ hm
  obtain ⟨A0, len0, cap0, e0⟩ := okWide_slice Try.underlying39 (hval 0 39 v0 rfl rfl)
  subst e0
  obtain ⟨fuel0, hf0⟩ := h0
  obtain ⟨L0, l0, w0, s0, m0⟩ := Clause.open_slice (show DataW.trod enc Try.prog W 0 (fun _ => true) true fuel0 39 [.slice A0 len0 cap0] = some (d0, p0) by simpa [Value.cells] using hf0)
  subst l0
  have k1 := h1
  have lt1 : ∀ x ∈ p1, x.block < W.heap.size := by obtain ⟨m, hm⟩ := k1; exact DataW.trod_lt m _ _ _ hm
  obtain ⟨a1, e1, _, _, s1⟩ := Go.ChangeMaps.open_string Try.underlying9 (hval 1 9 v1 rfl rfl) h1
  subst e1
  clear hA0 hval0
  refine (fnExactIsReachable_walk W A0 cap0 L0 w0 s0 m0 a1 s1).mono fun e W' ⟨he, bel⟩ => ?_
  subst he
  exact ⟨_, rfl, _, _, _, [], _, [], hW', trodAll_mk1 (shut_bool Try.underlying4 _), (trodAll_cons_mk (Below.trod laidOut (by kernel_rfl) (of_decide_eq_true (by kernel_rfl)) k0 bel lt0) (trodAll_cons_mk (Below.trod laidOut (by kernel_rfl) (of_decide_eq_true (by kernel_rfl)) k1 bel lt1) trodAll_mk0)), rfl, bel.frame _, fun h => by cases h⟩

theorem fnExactIsReachable_over : Rows.fnExactIsReachableRow.holds Try.pinned (OpenSpec.ofChange Rows.fnExactIsReachableSpec) :=
  OpenClaim.holds_of_wide 9 Try.f9 rfl rfl rfl rfl rfl rfl rfl ⟨rfl, rfl, rfl, rfl, rfl⟩ rfl rfl rfl rfl rfl (by kernel_rfl) Try.func9 (by kernel_rfl)
    (of_decide_eq_true (by kernel_rfl)) (by unfold Func.isWrapper; first | (rw [if_pos (by decide +kernel)]; kernel_rfl) | (rw [if_neg (by decide +kernel)]; exact ⟨rfl, rfl⟩))
    (fun os started H enc _ => fnExactIsReachable_lifted os started H enc)

theorem fnExactIsReachable_holds : Rows.FnExactIsReachableSaid := fnExactIsReachable_over
#print axioms fnExactIsReachable_holds
end Go.Proofs.Ythhfhdekhgkcaaa
