/-
  FnExactLegOn: the law returns true for every input, and its arguments read afterwards as before. No condition beyond the row's own.
-/
import Derived.Test.YtecdneaheeepdaaVoyLeg
import Derived.Test.YtecdneaheeepdaaStopOpen
namespace Go.Proofs.Ytecdneaheeepdaa
open Go.RowKit Go.ChangeShapes Go.WideShapes Go.ChangeAt

set_option maxHeartbeats 2000000 in
set_option maxRecDepth 100000 in
theorem fnExactLegOn_walk (w : World) (A0 : Option Addr) (cap0 : Nat) (L0 : List Stop) (w0 : Stop.At w A0 L0) (s0 : ∀ s ∈ L0, s.small) (m0 : L0.length ≤ 9223372036854775807) (a1 : Int) (_b1 : -9223372036854775808 ≤ a1 ∧ a1 ≤ 9223372036854775807) :
    Calls Try.prog 9 #[.slice A0 L0.length cap0, .int .i64 a1] w fun e w' => e = .returned (.bool true) ∧ Below w.heap.size w w' := by
  have B := Below.refl w.heap.size w
  go_enter Try.func9, Try.ntmps9
  go_wp2_with fail
  refine (szStopS_any A0 cap0 L0 _ _ w0 s0 m0 (by decide) (by decide)).mono ?_
  rintro e w1 ⟨r0, rfl, hr1, hr0, hr3, hb⟩
  replace B := B.trans (hb.mono B.size)
  clear hb
  by_cases hr : r0 < 0
  · go_wp2
    go_ret
    exact ⟨rfl, B⟩
  replace hr : 0 ≤ r0 := by omega
  have t0 := hr3.out hr
  clear hr1 hr3
  go_wp2_with fail
  refine (toStopS_any A0 cap0 L0 _ (w0.below B) t0.1).mono ?_
  rintro e w2 ⟨A1, c1, rfl, o1, hb⟩
  replace B := B.trans (hb.mono B.size)
  clear hb
  go_wp2_with fail
  refine (LegOn_spec A1 c1 L0 a1 _ (Stop.At.of_own o1) t0.2 t0.1).mono ?_
  rintro e w3 ⟨rfl, hb⟩
  replace B := B.trans (hb.mono B.size)
  clear hb
  go_wp2_with fail
  refine (toStopS_any A0 cap0 L0 _ (w0.below B) t0.1).mono ?_
  rintro e w4 ⟨A2, c2, rfl, o2, hb⟩
  replace B := B.trans (hb.mono B.size)
  clear hb
  go_wp2_with fail
  refine (LegOn_impl A2 c2 L0 a1 _ (Stop.At.of_own o2) t0.2 t0.1).mono ?_
  rintro e w5 ⟨rfl, hb⟩
  replace o2 := own_below o2 hb
  replace B := B.trans (hb.mono B.size)
  clear hb
  go_wp2_with fail
  refine (toStopS_any A0 cap0 L0 _ (w0.below B) t0.1).mono ?_
  rintro e w6 ⟨A3, c3, rfl, o3, hb⟩
  replace o2 := own_below o2 hb
  replace B := B.trans (hb.mono B.size)
  clear hb
  go_wp2_with fail
  refine (eqStopS_same A2 A3 c2 c3 L0 _ (Stop.At.of_own o2) (Stop.At.of_own o3) m0).mono ?_
  rintro e w7 ⟨rfl, hb⟩
  replace o2 := own_below o2 hb
  replace o3 := own_below o3 hb
  replace B := B.trans (hb.mono B.size)
  clear hb
  go_wp2
  go_ret
  exact ⟨rfl, B⟩

/-! ### FnExactLegOn: from the walk to the given statement -/
set_option maxRecDepth 100000 in
theorem fnExactLegOn_lifted (os : Os) (started : os.Started) (H : Type) (enc : TypeId × Value → H) :
    ReturnsInHanded {} Try.checked os 9 .any (Rows.fnExactLegOnSpec.pre6 enc Try.prog Try.f9 Rows.fnExactLegOnRow.domain false) (Rows.fnExactLegOnSpec.post enc Try.prog Try.f9 false true false false) := by
  refine returnsInHanded_of_change (C := Try.checked) own started (by kernel_rfl) Try.func9
    (ChangeSpec.witness6 (enc := enc) (C := Try.checked) false ⟨#[], #[.slice none 0 0, .int .i64 0], []⟩ 8 (by kernel_rfl) (by kernel_rfl) (by kernel_rfl) (by kernel_rfl)) ?_
  intro W base args ds gs before hval0 hW hcnd _
  have hval : ∀ (j : Nat) t v, Try.f9.params[j]? = some t → args[j]? = some v → Value.okWide Try.prog W .any base t v := hval0
  have hW' := hW
  obtain ⟨p, q, hA0, hV, rfl, hfz, hnd⟩ := hW
  have hA : DataW.TrodAll enc Try.prog W 0 (fun _ => true) true Try.f9.params.toList args.toList ds p := hA0
  rw [Try.params9] at hA hval
  obtain ⟨v0, vs0, d0, ds0, p0, q0, hargs, rfl, rfl, h0, r0⟩ := trodAll_cons hA
  obtain ⟨v1, vs1, d1, ds1, p1, q1, rfl, rfl, rfl, h1, r1⟩ := trodAll_cons r0
  obtain ⟨rfl, rfl, rfl⟩ := trodAll_nil r1
  obtain rfl : args = #[v0, v1] := by cases args; simp_all
  obtain ⟨rfl, rfl⟩ := trodVars_none hV
  have k0 := h0
  have lt0 : ∀ x ∈ p0, x.block < W.heap.size := by obtain ⟨m, hm⟩ := k0; exact DataW.trod_lt m _ _ _ hm
  obtain ⟨A0, len0, cap0, e0⟩ := okWide_slice Try.underlying22 (hval 0 22 v0 rfl rfl)
  subst e0
  obtain ⟨fuel0, hf0⟩ := h0
  obtain ⟨L0, l0, w0, s0, m0⟩ := Stop.open_slice (show DataW.trod enc Try.prog W 0 (fun _ => true) true fuel0 22 [.slice A0 len0 cap0] = some (d0, p0) by simpa [Value.cells] using hf0)
  subst l0
  have k1 := h1
  have lt1 : ∀ x ∈ p1, x.block < W.heap.size := by obtain ⟨m, hm⟩ := k1; exact DataW.trod_lt m _ _ _ hm
  obtain ⟨a1, e1, _, _, b1⟩ := open_int Try.underlying2 (hval 1 2 v1 rfl rfl) h1
  subst e1
  have b1 := wf_bd b1
  clear hA0 hval0
  refine (fnExactLegOn_walk W A0 cap0 L0 w0 s0 m0 a1 b1).mono fun e W' ⟨he, bel⟩ => ?_
  subst he
  exact ⟨_, rfl, _, _, _, [], _, [], hW', trodAll_mk1 (shut_bool Try.underlying4 _), (trodAll_cons_mk (Below.trod laidOut (by kernel_rfl) (of_decide_eq_true (by kernel_rfl)) k0 bel lt0) (trodAll_cons_mk (Below.trod laidOut (by kernel_rfl) (of_decide_eq_true (by kernel_rfl)) k1 bel lt1) trodAll_mk0)), rfl, bel.frame _, fun h => by cases h⟩

theorem fnExactLegOn_over : Rows.fnExactLegOnRow.holds Try.pinned (OpenSpec.ofChange Rows.fnExactLegOnSpec) :=
  OpenClaim.holds_of_wide 9 Try.f9 rfl rfl rfl rfl rfl rfl rfl ⟨rfl, rfl, rfl, rfl, rfl⟩ rfl rfl rfl rfl rfl (by kernel_rfl) Try.func9 (by kernel_rfl)
    (of_decide_eq_true (by kernel_rfl)) (by unfold Func.isWrapper; first | (rw [if_pos (by decide +kernel)]; kernel_rfl) | (rw [if_neg (by decide +kernel)]; exact ⟨rfl, rfl⟩))
    (fun os started H enc _ => fnExactLegOn_lifted os started H enc)

theorem fnExactLegOn_holds : Rows.FnExactLegOnSaid := fnExactLegOn_over
#print axioms fnExactLegOn_holds
end Go.Proofs.Ytecdneaheeepdaa
