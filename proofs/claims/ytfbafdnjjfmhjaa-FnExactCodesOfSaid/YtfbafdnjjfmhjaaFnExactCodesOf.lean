/-
  FnExactCodesOf: the law returns true for every input, and its arguments read afterwards as before. No condition beyond the row's own.
-/
import Derived.Test.YtfbafdnjjfmhjaaCodes
import Derived.Test.YtfbafdnjjfmhjaaInterestOpen
namespace Go.Proofs.Ytfbafdnjjfmhjaa
open Go.RowKit Go.ChangeShapes Go.WideShapes Go.ChangeAt

set_option maxHeartbeats 4000000 in
set_option maxRecDepth 100000 in
theorem fnExactCodesOf_walk (w : World) (A0 : Option Addr) (cap0 : Nat) (L0 : List Interest) (w0 : Interest.At w A0 L0) (s0 : ∀ s ∈ L0, s.small) (m0 : L0.length ≤ 9223372036854775807) (a1 : ByteArray) (s1 : a1.size ≤ maxLen) :
    Calls Try.prog 11 #[.slice A0 L0.length cap0, .string a1] w fun e w' => e = .returned (.bool true) ∧ Below w.heap.size w w' := by
  have B := Below.refl w.heap.size w
  by_cases hsz1 : 1048576 < (a1.size : Int)
  · go_enter Try.func11, Try.ntmps11
    go_wp2
    go_ret
    exact ⟨rfl, B⟩
  go_enter Try.func11, Try.ntmps11
  go_wp2_with fail
  refine (szInterestS_any A0 cap0 L0 _ _ (w0.below B) s0 m0 (by omega) (by omega)).mono ?_
  rintro e w1 ⟨r0, rfl, hr1, hr0, hr3, hb⟩
  replace B := B.trans (hb.mono B.size)
  clear hb
  by_cases hr : r0 < 0
  · go_wp2
    go_ret
    exact ⟨rfl, B⟩
  replace hr : 0 ≤ r0 := by omega
  have t0 := hr3.out hr
  clear hr1 hr3
  have hR := Nat.le_trans (codesR_len L0 a1) t0.1
  have hR2 : ((codesR L0 a1).1).length ≤ 9223372036854775807 := by omega
  go_wp2_with fail
  refine (toInterestS_any A0 cap0 L0 _ (w0.below B) t0.1).mono ?_
  rintro e w2 ⟨Ap0, cp0, rfl, op0, hb⟩
  have bs_op0 := B.size
  replace B := B.trans (hb.mono B.size)
  clear hb
  go_wp2_with fail
  refine (CodesOf_spec Ap0 cp0 L0 a1 _ (Interest.At.of_own op0) t0.2 t0.1).mono ?_
  rintro e w3 ⟨Aw, cw, rfl, ow, hb⟩
  have ap_op0_ow := Lib.hid (own_apart op0 ow (Nat.le_refl _))
  have bs_ow := B.size
  replace op0 := own_below op0 hb
  replace B := B.trans (hb.mono B.size)
  clear hb
  go_wp2_with fail
  refine (toInterestS_any A0 cap0 L0 _ (w0.below B) t0.1).mono ?_
  rintro e w4 ⟨Ax0, cx0, rfl, ox0, hb⟩
  have ap_ow_ox0 := Lib.hid (own_apart ow ox0 (Nat.le_refl _))
  have bs_ox0 := B.size
  replace ow := own_below ow hb
  replace B := B.trans (hb.mono B.size)
  clear hb
  go_wp2_with fail
  refine (CodesOf_impl Ax0 cx0 L0 a1 _ (Interest.At.of_own ox0) t0.2 t0.1).mono ?_
  rintro e w5 ⟨Ag, cg, rfl, og, hb⟩
  have ap_ow_og := Lib.hid (own_apart ow og (Nat.le_refl _))
  have ap_ox0_og := Lib.hid (own_apart ox0 og (Nat.le_refl _))
  have bs_og := B.size
  replace ow := own_below ow hb
  replace ox0 := own_below ox0 hb
  replace B := B.trans (hb.mono B.size)
  clear hb
  go_wp2_with fail
  refine (eqStringS_same Ag Aw cg cw ((codesR L0 a1).1) _ (Texts.At.of_own og) (Texts.At.of_own ow) hR2).mono ?_
  rintro e w6 ⟨rfl, hb⟩
  replace ow := own_below ow hb
  replace ox0 := own_below ox0 hb
  replace og := own_below og hb
  replace B := B.trans (hb.mono B.size)
  clear hb
  go_wp2_with fail
  refine (toInterestS_any A0 cap0 L0 _ (w0.below B) t0.1).mono ?_
  rintro e w7 ⟨Ay0, cy0, rfl, oy0, hb⟩
  have ap_ow_oy0 := Lib.hid (own_apart ow oy0 (Nat.le_refl _))
  have ap_ox0_oy0 := Lib.hid (own_apart ox0 oy0 (Nat.le_refl _))
  have ap_og_oy0 := Lib.hid (own_apart og oy0 (Nat.le_refl _))
  have bs_oy0 := B.size
  replace ow := own_below ow hb
  replace ox0 := own_below ox0 hb
  replace og := own_below og hb
  replace B := B.trans (hb.mono B.size)
  clear hb
  go_wp2_with fail
  refine (eqInterestS_same Ax0 Ay0 cx0 cy0 L0 _ (Interest.At.of_own ox0) (Interest.At.of_own oy0) m0).mono ?_
  rintro e w8 ⟨rfl, hb⟩
  replace ow := own_below ow hb
  replace ox0 := own_below ox0 hb
  replace og := own_below og hb
  replace oy0 := own_below oy0 hb
  replace B := B.trans (hb.mono B.size)
  clear hb
  clear oy0
  go_wp2_with fail
  refine (markInterestS_any _ Ax0 cx0 L0 (1) _ ox0 t0.1 (by decide) (by decide)).mono ?_
  rintro e w9 ⟨rfl, ho, hg⟩
  replace ow := own_kept ow hg ap_ow_ox0.out.1
  replace og := own_kept og hg ap_ox0_og.out.2
  replace B := below_mark B ox0 hg bs_ox0
  replace ox0 := ho
  clear ho hg
  have hmk0 : L0.length ≤ 1048576 := t0.1
  go_wp2_with fail
  refine (eqStringS_same Ag Aw cg cw ((codesR L0 a1).1) _ (Texts.At.of_own og) (Texts.At.of_own ow) hR2).mono ?_
  rintro e w10 ⟨rfl, hb⟩
  replace ow := own_below ow hb
  replace ox0 := own_below ox0 hb
  replace og := own_below og hb
  replace B := B.trans (hb.mono B.size)
  clear hb
  go_wp2_with fail
  refine (markStringS_any _ Ag cg ((codesR L0 a1).1) 1 _ og hR (by decide) (by decide)).mono ?_
  rintro e w11 ⟨rfl, ho, hg⟩
  replace ow := own_kept ow hg ap_ow_og.out.1
  clear ox0
  replace B := below_mark B og hg bs_og
  replace og := ho
  clear ho hg
  go_wp2_with fail
  refine (heldStringS_any Ag cg ((codesR L0 a1).1).length 1 _ (Texts.At.of_own (L := Texts.marks 1 ((codesR L0 a1).1).length) (by rw [Texts.marks_len]; exact og)) hR (by decide) (by decide)).mono ?_
  rintro e w12 ⟨rfl, hb⟩
  replace ow := own_below ow hb
  replace og := own_below og hb
  replace B := B.trans (hb.mono B.size)
  clear hb
  go_wp2_with fail
  refine (toInterestS_any A0 cap0 L0 _ (w0.below B) t0.1).mono ?_
  rintro e w13 ⟨Aq0, cq0, rfl, oq0, hb⟩
  have ap_ow_oq0 := Lib.hid (own_apart ow oq0 (Nat.le_refl _))
  have ap_og_oq0 := Lib.hid (own_apart og oq0 (Nat.le_refl _))
  have bs_oq0 := B.size
  replace ow := own_below ow hb
  replace og := own_below og hb
  replace B := B.trans (hb.mono B.size)
  clear hb
  go_wp2_with fail
  refine (CodesOf_impl Aq0 cq0 L0 a1 _ (Interest.At.of_own oq0) t0.2 t0.1).mono ?_
  rintro e w14 ⟨Ah, ch, rfl, oh, hb⟩
  have ap_ow_oh := Lib.hid (own_apart ow oh (Nat.le_refl _))
  have ap_og_oh := Lib.hid (own_apart og oh (Nat.le_refl _))
  have ap_oq0_oh := Lib.hid (own_apart oq0 oh (Nat.le_refl _))
  have bs_oh := B.size
  replace ow := own_below ow hb
  replace og := own_below og hb
  replace oq0 := own_below oq0 hb
  replace B := B.trans (hb.mono B.size)
  clear hb
  go_wp2_with fail
  refine (eqStringS_same Ah Aw ch cw ((codesR L0 a1).1) _ (Texts.At.of_own oh) (Texts.At.of_own ow) hR2).mono ?_
  rintro e w15 ⟨rfl, hb⟩
  replace ow := own_below ow hb
  replace og := own_below og hb
  replace oq0 := own_below oq0 hb
  replace oh := own_below oh hb
  replace B := B.trans (hb.mono B.size)
  clear hb
  go_wp2_with fail
  refine (heldStringS_any Ag cg ((codesR L0 a1).1).length 1 _ (Texts.At.of_own (L := Texts.marks 1 ((codesR L0 a1).1).length) (by rw [Texts.marks_len]; exact og)) hR (by decide) (by decide)).mono ?_
  rintro e w16 ⟨rfl, hb⟩
  replace ow := own_below ow hb
  replace og := own_below og hb
  replace oq0 := own_below oq0 hb
  replace oh := own_below oh hb
  replace B := B.trans (hb.mono B.size)
  clear hb
  go_wp2
  go_ret
  exact ⟨rfl, B⟩

/-! ### FnExactCodesOf: from the walk to the given statement -/
set_option maxRecDepth 100000 in
theorem fnExactCodesOf_lifted (os : Os) (started : os.Started) (H : Type) (enc : TypeId × Value → H) :
    ReturnsInHanded {} Try.checked os 11 .any (Rows.fnExactCodesOfSpec.pre6 enc Try.prog Try.f11 Rows.fnExactCodesOfRow.domain false) (Rows.fnExactCodesOfSpec.post enc Try.prog Try.f11 false true false false) := by
  refine returnsInHanded_of_change (C := Try.checked) own started (by kernel_rfl) Try.func11
    (ChangeSpec.witness6 (enc := enc) (C := Try.checked) false ⟨#[], #[.slice none 0 0, .string ⟨#[]⟩], []⟩ 8 (by kernel_rfl) (by kernel_rfl) (by kernel_rfl) (by kernel_rfl)) ?_
  intro W base args ds gs before hval0 hW hcnd _
  have hval : ∀ (j : Nat) t v, Try.f11.params[j]? = some t → args[j]? = some v → Value.okWide Try.prog W .any base t v := hval0
  have hW' := hW
  obtain ⟨p, q, hA0, hV, rfl, hfz, hnd⟩ := hW
  have hA : DataW.TrodAll enc Try.prog W 0 (fun _ => true) true Try.f11.params.toList args.toList ds p := hA0
  rw [Try.params11] at hA hval
  obtain ⟨v0, vs0, d0, ds0, p0, q0, hargs, rfl, rfl, h0, r0⟩ := trodAll_cons hA
  obtain ⟨v1, vs1, d1, ds1, p1, q1, rfl, rfl, rfl, h1, r1⟩ := trodAll_cons r0
  obtain ⟨rfl, rfl, rfl⟩ := trodAll_nil r1
  obtain rfl : args = #[v0, v1] := by cases args; simp_all
  obtain ⟨rfl, rfl⟩ := trodVars_none hV
  have k0 := h0
  have lt0 : ∀ x ∈ p0, x.block < W.heap.size := by obtain ⟨m, hm⟩ := k0; exact DataW.trod_lt m _ _ _ hm
  obtain ⟨A0, len0, cap0, e0⟩ := okWide_slice Try.underlying64 (hval 0 64 v0 rfl rfl)
  subst e0
  obtain ⟨fuel0, hf0⟩ := h0
  obtain ⟨L0, l0, w0, s0, m0⟩ := Interest.open_slice (show DataW.trod enc Try.prog W 0 (fun _ => true) true fuel0 64 [.slice A0 len0 cap0] = some (d0, p0) by simpa [Value.cells] using hf0)
  subst l0
  have k1 := h1
  have lt1 : ∀ x ∈ p1, x.block < W.heap.size := by obtain ⟨m, hm⟩ := k1; exact DataW.trod_lt m _ _ _ hm
  obtain ⟨a1, e1, _, _, s1⟩ := Go.ChangeMaps.open_string Try.underlying9 (hval 1 9 v1 rfl rfl) h1
  subst e1
  clear hA0 hval0
  refine (fnExactCodesOf_walk W A0 cap0 L0 w0 s0 m0 a1 s1).mono fun e W' ⟨he, bel⟩ => ?_
  subst he
  exact ⟨_, rfl, _, _, _, [], _, [], hW', trodAll_mk1 (shut_bool Try.underlying4 _), (trodAll_cons_mk (Below.trod laidOut (by kernel_rfl) (of_decide_eq_true (by kernel_rfl)) k0 bel lt0) (trodAll_cons_mk (Below.trod laidOut (by kernel_rfl) (of_decide_eq_true (by kernel_rfl)) k1 bel lt1) trodAll_mk0)), rfl, bel.frame _, fun h => by cases h⟩

theorem fnExactCodesOf_over : Rows.fnExactCodesOfRow.holds Try.pinned (OpenSpec.ofChange Rows.fnExactCodesOfSpec) :=
  OpenClaim.holds_of_wide 11 Try.f11 rfl rfl rfl rfl rfl rfl rfl ⟨rfl, rfl, rfl, rfl, rfl⟩ rfl rfl rfl rfl rfl (by kernel_rfl) Try.func11 (by kernel_rfl)
    (of_decide_eq_true (by kernel_rfl)) (by unfold Func.isWrapper; first | (rw [if_pos (by decide +kernel)]; kernel_rfl) | (rw [if_neg (by decide +kernel)]; exact ⟨rfl, rfl⟩))
    (fun os started H enc _ => fnExactCodesOf_lifted os started H enc)

theorem fnExactCodesOf_holds : Rows.FnExactCodesOfSaid := fnExactCodesOf_over
#print axioms fnExactCodesOf_holds
end Go.Proofs.Ytfbafdnjjfmhjaa
