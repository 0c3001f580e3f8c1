/-
  FnExactDoesFit: the law returns true for every input, and its arguments read afterwards as before. No condition beyond the row's own.
-/
import Derived.Test.YtfbafdnjjfmhjaaFit
import Derived.Test.YtfbafdnjjfmhjaaEventOpen
import Derived.Test.YtfbafdnjjfmhjaaInterestOpen
namespace Go.Proofs.Ytfbafdnjjfmhjaa
open Go.RowKit Go.ChangeShapes Go.WideShapes Go.ChangeAt

set_option maxHeartbeats 4000000 in
set_option maxRecDepth 100000 in
theorem fnExactDoesFit_walk (w : World) (A0 : Option Addr) (cap0 : Nat) (L0 : List Event) (aw0 : Event.At w A0 L0) (s0 : ∀ s ∈ L0, s.small) (m0 : L0.length ≤ 9223372036854775807) (A1 : Option Addr) (cap1 : Nat) (L1 : List Interest) (aw1 : Interest.At w A1 L1) (s1 : ∀ s ∈ L1, s.small) (m1 : L1.length ≤ 9223372036854775807) :
    Calls Try.prog 10 #[.slice A0 L0.length cap0, .slice A1 L1.length cap1] w fun e w' => e = .returned (.bool true) ∧ Below w.heap.size w w' := by
  have B := Below.refl w.heap.size w
  go_enter Try.func10, Try.ntmps10
  go_wp2_with fail
  refine (szEventS_any A0 cap0 L0 _ _ (aw0.below B) s0 m0 (by omega) (by omega)).mono ?_
  rintro e w1 ⟨r0, rfl, hr1, hr0, hr3, hb⟩
  replace B := B.trans (hb.mono B.size)
  clear hb
  by_cases hr : r0 < 0
  · go_wp2
    go_ret
    exact ⟨rfl, B⟩
  replace hr : 0 ≤ r0 := by omega
  have t0 := hr3.out hr
  clear hr1 hr3
  go_wp2_with fail
  refine (szInterestS_any A1 cap1 L1 _ _ (aw1.below B) s1 m1 (by omega) (by omega)).mono ?_
  rintro e w2 ⟨r1, rfl, hr1, hr1, hr3, hb⟩
  replace B := B.trans (hb.mono B.size)
  clear hb
  by_cases hr : r1 < 0
  · go_wp2
    go_ret
    exact ⟨rfl, B⟩
  replace hr : 0 ≤ r1 := by omega
  have t1 := hr3.out hr
  clear hr1 hr3
  go_wp2_with fail
  refine (toEventS_any A0 cap0 L0 _ (aw0.below B) t0.1).mono ?_
  rintro e w3 ⟨Ap0, cp0, rfl, op0, hb⟩
  have bs_op0 := B.size
  replace B := B.trans (hb.mono B.size)
  clear hb
  go_wp2_with fail
  refine (toInterestS_any A1 cap1 L1 _ (aw1.below B) t1.1).mono ?_
  rintro e w4 ⟨Ap1, cp1, rfl, op1, hb⟩
  have ap_op0_op1 := Lib.hid (own_apart op0 op1 (Nat.le_refl _))
  have bs_op1 := B.size
  replace op0 := own_below op0 hb
  replace B := B.trans (hb.mono B.size)
  clear hb
  go_wp2_with fail
  refine (DoesFit_spec Ap0 cp0 L0 Ap1 cp1 L1 _ (Event.At.of_own op0) (Interest.At.of_own op1) t0.2 t1.2 m0 t1.1).mono ?_
  rintro e w5 ⟨rfl, hb⟩
  replace op0 := own_below op0 hb
  replace op1 := own_below op1 hb
  replace B := B.trans (hb.mono B.size)
  clear hb
  go_wp2_with fail
  refine (toEventS_any A0 cap0 L0 _ (aw0.below B) t0.1).mono ?_
  rintro e w6 ⟨Ax0, cx0, rfl, ox0, hb⟩
  have bs_ox0 := B.size
  replace B := B.trans (hb.mono B.size)
  clear hb
  go_wp2_with fail
  refine (toInterestS_any A1 cap1 L1 _ (aw1.below B) t1.1).mono ?_
  rintro e w7 ⟨Ax1, cx1, rfl, ox1, hb⟩
  have ap_ox0_ox1 := Lib.hid (own_apart ox0 ox1 (Nat.le_refl _))
  have bs_ox1 := B.size
  replace ox0 := own_below ox0 hb
  replace B := B.trans (hb.mono B.size)
  clear hb
  go_wp2_with fail
  refine (DoesFit_impl Ax0 cx0 L0 Ax1 cx1 L1 _ (Event.At.of_own ox0) (Interest.At.of_own ox1) t0.2 t1.2 m0 t1.1).mono ?_
  rintro e w8 ⟨rfl, hb⟩
  replace ox0 := own_below ox0 hb
  replace ox1 := own_below ox1 hb
  replace B := B.trans (hb.mono B.size)
  clear hb
  go_wp2_with fail
  refine (toEventS_any A0 cap0 L0 _ (aw0.below B) t0.1).mono ?_
  rintro e w9 ⟨Ay0, cy0, rfl, oy0, hb⟩
  have ap_ox0_oy0 := Lib.hid (own_apart ox0 oy0 (Nat.le_refl _))
  have ap_ox1_oy0 := Lib.hid (own_apart ox1 oy0 (Nat.le_refl _))
  have bs_oy0 := B.size
  replace ox0 := own_below ox0 hb
  replace ox1 := own_below ox1 hb
  replace B := B.trans (hb.mono B.size)
  clear hb
  go_wp2_with fail
  refine (eqEventS_same Ax0 Ay0 cx0 cy0 L0 _ (Event.At.of_own ox0) (Event.At.of_own oy0) m0).mono ?_
  rintro e w10 ⟨rfl, hb⟩
  replace ox0 := own_below ox0 hb
  replace ox1 := own_below ox1 hb
  replace oy0 := own_below oy0 hb
  replace B := B.trans (hb.mono B.size)
  clear hb
  go_wp2_with fail
  refine (toInterestS_any A1 cap1 L1 _ (aw1.below B) t1.1).mono ?_
  rintro e w11 ⟨Ay1, cy1, rfl, oy1, hb⟩
  have ap_ox0_oy1 := Lib.hid (own_apart ox0 oy1 (Nat.le_refl _))
  have ap_ox1_oy1 := Lib.hid (own_apart ox1 oy1 (Nat.le_refl _))
  have ap_oy0_oy1 := Lib.hid (own_apart oy0 oy1 (Nat.le_refl _))
  have bs_oy1 := B.size
  replace ox0 := own_below ox0 hb
  replace ox1 := own_below ox1 hb
  replace oy0 := own_below oy0 hb
  replace B := B.trans (hb.mono B.size)
  clear hb
  go_wp2_with fail
  refine (eqInterestS_same Ax1 Ay1 cx1 cy1 L1 _ (Interest.At.of_own ox1) (Interest.At.of_own oy1) m1).mono ?_
  rintro e w12 ⟨rfl, hb⟩
  replace ox0 := own_below ox0 hb
  replace ox1 := own_below ox1 hb
  replace oy0 := own_below oy0 hb
  replace oy1 := own_below oy1 hb
  replace B := B.trans (hb.mono B.size)
  clear hb
  go_wp2
  go_ret
  exact ⟨rfl, B⟩

/-! ### FnExactDoesFit: from the walk to the given statement -/
set_option maxRecDepth 100000 in
theorem fnExactDoesFit_lifted (os : Os) (started : os.Started) (H : Type) (enc : TypeId × Value → H) :
    ReturnsInHanded {} Try.checked os 10 .any (Rows.fnExactDoesFitSpec.pre6 enc Try.prog Try.f10 Rows.fnExactDoesFitRow.domain false) (Rows.fnExactDoesFitSpec.post enc Try.prog Try.f10 false true false false) := by
  refine returnsInHanded_of_change (C := Try.checked) own started (by kernel_rfl) Try.func10
    (ChangeSpec.witness6 (enc := enc) (C := Try.checked) false ⟨#[], #[.slice none 0 0, .slice none 0 0], []⟩ 8 (by kernel_rfl) (by kernel_rfl) (by kernel_rfl) (by kernel_rfl)) ?_
  intro W base args ds gs before hval0 hW hcnd _
  have hval : ∀ (j : Nat) t v, Try.f10.params[j]? = some t → args[j]? = some v → Value.okWide Try.prog W .any base t v := hval0
  have hW' := hW
  obtain ⟨p, q, hA0, hV, rfl, hfz, hnd⟩ := hW
  have hA : DataW.TrodAll enc Try.prog W 0 (fun _ => true) true Try.f10.params.toList args.toList ds p := hA0
  rw [Try.params10] at hA hval
  obtain ⟨v0, vs0, d0, ds0, p0, q0, hargs, rfl, rfl, h0, r0⟩ := trodAll_cons hA
  obtain ⟨v1, vs1, d1, ds1, p1, q1, rfl, rfl, rfl, h1, r1⟩ := trodAll_cons r0
  obtain ⟨rfl, rfl, rfl⟩ := trodAll_nil r1
  obtain rfl : args = #[v0, v1] := by cases args; simp_all
  obtain ⟨rfl, rfl⟩ := trodVars_none hV
  have k0 := h0
  have lt0 : ∀ x ∈ p0, x.block < W.heap.size := by obtain ⟨m, hm⟩ := k0; exact DataW.trod_lt m _ _ _ hm
  obtain ⟨A0, len0, cap0, e0⟩ := okWide_slice Try.underlying29 (hval 0 29 v0 rfl rfl)
  subst e0
  obtain ⟨fuel0, hf0⟩ := h0
  obtain ⟨L0, l0, w0, s0, m0⟩ := Event.open_slice (show DataW.trod enc Try.prog W 0 (fun _ => true) true fuel0 29 [.slice A0 len0 cap0] = some (d0, p0) by simpa [Value.cells] using hf0)
  subst l0
  have k1 := h1
  have lt1 : ∀ x ∈ p1, x.block < W.heap.size := by obtain ⟨m, hm⟩ := k1; exact DataW.trod_lt m _ _ _ hm
  obtain ⟨A1, len1, cap1, e1⟩ := okWide_slice Try.underlying64 (hval 1 64 v1 rfl rfl)
  subst e1
  obtain ⟨fuel1, hf1⟩ := h1
  obtain ⟨L1, l1, w1, s1, m1⟩ := Interest.open_slice (show DataW.trod enc Try.prog W 0 (fun _ => true) true fuel1 64 [.slice A1 len1 cap1] = some (d1, p1) by simpa [Value.cells] using hf1)
  subst l1
  clear hA0 hval0
  refine (fnExactDoesFit_walk W A0 cap0 L0 w0 s0 m0 A1 cap1 L1 w1 s1 m1).mono fun e W' ⟨he, bel⟩ => ?_
  subst he
  exact ⟨_, rfl, _, _, _, [], _, [], hW', trodAll_mk1 (shut_bool Try.underlying4 _), (trodAll_cons_mk (Below.trod laidOut (by kernel_rfl) (of_decide_eq_true (by kernel_rfl)) k0 bel lt0) (trodAll_cons_mk (Below.trod laidOut (by kernel_rfl) (of_decide_eq_true (by kernel_rfl)) k1 bel lt1) trodAll_mk0)), rfl, bel.frame _, fun h => by cases h⟩

theorem fnExactDoesFit_over : Rows.fnExactDoesFitRow.holds Try.pinned (OpenSpec.ofChange Rows.fnExactDoesFitSpec) :=
  OpenClaim.holds_of_wide 10 Try.f10 rfl rfl rfl rfl rfl rfl rfl ⟨rfl, rfl, rfl, rfl, rfl⟩ rfl rfl rfl rfl rfl (by kernel_rfl) Try.func10 (by kernel_rfl)
    (of_decide_eq_true (by kernel_rfl)) (by unfold Func.isWrapper; first | (rw [if_pos (by decide +kernel)]; kernel_rfl) | (rw [if_neg (by decide +kernel)]; exact ⟨rfl, rfl⟩))
    (fun os started H enc _ => fnExactDoesFit_lifted os started H enc)

theorem fnExactDoesFit_holds : Rows.FnExactDoesFitSaid := fnExactDoesFit_over
#print axioms fnExactDoesFit_holds
end Go.Proofs.Ytfbafdnjjfmhjaa
