/-
  FnExactDecideLog: the law returns true for every input, and its arguments read afterwards as before. No condition beyond the row's own.
-/
import Derived.Test.YthhfhdekhgkcaaaDecLaw
import Derived.Test.YthhfhdekhgkcaaaClauseOpen
import Derived.Test.YthhfhdekhgkcaaaEventOpen
namespace Go.Proofs.Ythhfhdekhgkcaaa
open Go.RowKit Go.ChangeShapes Go.WideShapes Go.ChangeAt

set_option maxHeartbeats 8000000 in
set_option maxRecDepth 100000 in
theorem fnExactDecideLog_walk (w : World) (A0 : Option Addr) (cap0 : Nat) (L0 : List Clause) (aw0 : Clause.At w A0 L0) (s0 : ∀ s ∈ L0, s.small) (m0 : L0.length ≤ 9223372036854775807) (A1 : Option Addr) (cap1 : Nat) (L1 : List Event) (aw1 : Event.At w A1 L1) (s1 : ∀ s ∈ L1, s.small) (m1 : L1.length ≤ 9223372036854775807) :
    Calls Try.prog 11 #[.slice A0 L0.length cap0, .slice A1 L1.length cap1] w fun e w' => e = .returned (.bool true) ∧ Below w.heap.size w w' := by
  have B := Below.refl w.heap.size w
  go_enter Try.func11, Try.ntmps11
  go_wp2_with fail
  refine (szClauseS_any A0 cap0 L0 _ _ (aw0.below B) s0 m0 (by omega) (by omega)).mono ?_
  rintro e w1 ⟨r0, rfl, hr1, hr0, hr3, hb⟩
  replace B := B.trans (hb.mono B.size)
  clear hb
  by_cases hr : r0 < 0
  · go_wp2
    go_ret
    exact ⟨rfl, B⟩
  replace hr : 0 ≤ r0 := by omega
  have t0 := hr3.out hr
  clear hr1 hr3
  go_wp2_with fail
  refine (szEventS_any A1 cap1 L1 _ _ (aw1.below B) s1 m1 (by omega) (by omega)).mono ?_
  rintro e w2 ⟨r1, rfl, hr1, hr1, hr3, hb⟩
  replace B := B.trans (hb.mono B.size)
  clear hb
  by_cases hr : r1 < 0
  · go_wp2
    go_ret
    exact ⟨rfl, B⟩
  replace hr : 0 ≤ r1 := by omega
  have t1 := hr3.out hr
  clear hr1 hr3
  have hR := decsR_12 L0 L1
  obtain ⟨hR1, hR2⟩ := hR
  have hme := markEnd_bd ((decsR L0 L1).1) 1 hR2
  have HR2 := Lib.hid hR2
  clear hR2
  go_wp2_with fail
  refine (toClauseS_any A0 cap0 L0 _ (aw0.below B) t0.1).mono ?_
  rintro e w3 ⟨Ap0, cp0, rfl, op0, hb⟩
  have bs_op0 := B.size
  replace B := B.trans (hb.mono B.size)
  clear hb
  go_wp2_with fail
  refine (toEventS_any A1 cap1 L1 _ (aw1.below B) t1.1).mono ?_
  rintro e w4 ⟨Ap1, cp1, rfl, op1, hb⟩
  have ap_op0_op1 := Lib.hid (own_apart op0 op1 (Nat.le_refl _))
  have bs_op1 := B.size
  replace op0 := own_below op0 hb
  replace B := B.trans (hb.mono B.size)
  clear hb
  have bz_ow := B.size
  go_wp2_with fail
  refine (DecideLog_spec Ap0 cp0 L0 Ap1 cp1 L1 _ (Clause.At.of_own op0) (Event.At.of_own op1) t0.2 t1.2 m0 m1).mono ?_
  rintro e w5 ⟨Aw, cw, rfl, ow, hb⟩
  replace op0 := own_below op0 hb
  replace op1 := own_below op1 hb
  replace B := B.trans (hb.mono B.size)
  replace ow := DecsOwn.in_ ow
  have lim_ow := hb.size
  clear hb
  go_wp2_with fail
  refine (toClauseS_some A0 cap0 L0 _ (aw0.below B) t0.1).mono ?_
  rintro e w6 ⟨gx0, rfl, ox0, hb⟩
  replace ow := DecsIn.below ow hb
  have bs_ox0 := B.size
  replace B := B.trans (hb.mono B.size)
  replace lim_ow := Nat.le_trans lim_ow hb.size
  clear hb
  have hcp0 := own_caps ox0
  go_wp2_with fail
  refine (toEventS_any A1 cap1 L1 _ (aw1.below B) t1.1).mono ?_
  rintro e w7 ⟨Ax1, cx1, rfl, ox1, hb⟩
  replace ow := DecsIn.below ow hb
  have ap_ox0_ox1 := Lib.hid (own_apart ox0 ox1 (Nat.le_refl _))
  have bs_ox1 := B.size
  replace ox0 := own_below ox0 hb
  replace B := B.trans (hb.mono B.size)
  replace lim_ow := Nat.le_trans lim_ow hb.size
  clear hb
  have bz_og := B.size
  go_wp2_with fail
  refine (DecideLog_impl _ _ _ L0 Ax1 cx1 L1 _ (Clause.At.of_own ox0) (Event.At.of_own ox1) t0.2 t1.2 m0 m1 hcp0.1 hcp0.2).mono ?_
  rintro e w8 ⟨Ag, cg, rfl, og, hb⟩
  replace ow := DecsIn.below (DecsOwn.in_ ow.own) hb
  replace ox0 := own_below ox0 hb
  replace ox1 := own_below ox1 hb
  replace B := B.trans (hb.mono B.size)
  replace lim_ow := Nat.le_trans lim_ow hb.size
  replace og := DecsOwn.in_ og
  have lim_og := hb.size
  clear hb
  clear hcp0
  go_wp2_with fail
  refine (eqDecisionS_same Ag Aw cg cw ((decsR L0 L1).1) _ (og.own.at_) (ow.own.at_) (by omega) HR2.out).mono ?_
  rintro e w9 ⟨rfl, hb⟩
  replace ow := DecsIn.below ow hb
  replace og := DecsIn.below og hb
  replace ox0 := own_below ox0 hb
  replace ox1 := own_below ox1 hb
  replace B := B.trans (hb.mono B.size)
  replace lim_ow := Nat.le_trans lim_ow hb.size
  replace lim_og := Nat.le_trans lim_og hb.size
  clear hb
  go_wp2_with fail
  refine (toClauseS_any A0 cap0 L0 _ (aw0.below B) t0.1).mono ?_
  rintro e w10 ⟨Ay0, cy0, rfl, oy0, hb⟩
  replace ow := DecsIn.below ow hb
  replace og := DecsIn.below og hb
  have ap_ox0_oy0 := Lib.hid (own_apart ox0 oy0 (Nat.le_refl _))
  have ap_ox1_oy0 := Lib.hid (own_apart ox1 oy0 (Nat.le_refl _))
  have bs_oy0 := B.size
  replace ox0 := own_below ox0 hb
  replace ox1 := own_below ox1 hb
  replace B := B.trans (hb.mono B.size)
  replace lim_ow := Nat.le_trans lim_ow hb.size
  replace lim_og := Nat.le_trans lim_og hb.size
  clear hb
  go_wp2_with fail
  refine (eqClauseS_same _ Ay0 _ cy0 L0 _ (Clause.At.of_own ox0) (Clause.At.of_own oy0) m0).mono ?_
  rintro e w11 ⟨rfl, hb⟩
  replace ow := DecsIn.below ow hb
  replace og := DecsIn.below og hb
  replace ox0 := own_below ox0 hb
  replace ox1 := own_below ox1 hb
  replace oy0 := own_below oy0 hb
  replace B := B.trans (hb.mono B.size)
  replace lim_ow := Nat.le_trans lim_ow hb.size
  replace lim_og := Nat.le_trans lim_og hb.size
  clear hb
  clear oy0
  go_wp2_with fail
  refine (toEventS_any A1 cap1 L1 _ (aw1.below B) t1.1).mono ?_
  rintro e w12 ⟨Ay1, cy1, rfl, oy1, hb⟩
  replace ow := DecsIn.below ow hb
  replace og := DecsIn.below og hb
  have ap_ox0_oy1 := Lib.hid (own_apart ox0 oy1 (Nat.le_refl _))
  have ap_ox1_oy1 := Lib.hid (own_apart ox1 oy1 (Nat.le_refl _))
  have bs_oy1 := B.size
  replace ox0 := own_below ox0 hb
  replace ox1 := own_below ox1 hb
  replace B := B.trans (hb.mono B.size)
  replace lim_ow := Nat.le_trans lim_ow hb.size
  replace lim_og := Nat.le_trans lim_og hb.size
  clear hb
  go_wp2_with fail
  refine (eqEventS_same _ Ay1 _ cy1 L1 _ (Event.At.of_own ox1) (Event.At.of_own oy1) m1).mono ?_
  rintro e w13 ⟨rfl, hb⟩
  replace ow := DecsIn.below ow hb
  replace og := DecsIn.below og hb
  replace ox0 := own_below ox0 hb
  replace ox1 := own_below ox1 hb
  replace oy1 := own_below oy1 hb
  replace B := B.trans (hb.mono B.size)
  replace lim_ow := Nat.le_trans lim_ow hb.size
  replace lim_og := Nat.le_trans lim_og hb.size
  clear hb
  clear oy1
  go_wp2_with fail
  refine (markClauseS_any _ _ _ L0 (1) _ ox0 t0.1 (by decide) (by decide)).mono ?_
  rintro e w14 ⟨rfl, ho, hg⟩
  replace ow := DecsIn.other ow ox0 (by decide) (by decide) hg
  replace og := DecsIn.other og ox0 (by decide) (by decide) hg
  replace lim_ow := Nat.le_trans lim_ow hg.size
  replace lim_og := Nat.le_trans lim_og hg.size
  replace ox1 := own_kept ox1 hg ap_ox0_ox1.out.2
  replace B := below_mark B ox0 hg bs_ox0
  replace ox0 := ho
  clear ho hg
  have hmk0 : L0.length ≤ 1048576 := t0.1
  go_wp2_with fail
  refine (markEventS_any _ _ _ L1 (1 + 7 * (L0.length : Nat)) _ ox1 t1.1 (by omega) (by have := t0.1; omega)).mono ?_
  rintro e w15 ⟨rfl, ho, hg⟩
  replace ow := DecsIn.other ow ox1 (by decide) (by decide) hg
  replace og := DecsIn.other og ox1 (by decide) (by decide) hg
  replace lim_ow := Nat.le_trans lim_ow hg.size
  replace lim_og := Nat.le_trans lim_og hg.size
  clear ox0
  replace B := below_mark B ox1 hg bs_ox1
  replace ox1 := ho
  clear ho hg
  have hmk1 : L1.length ≤ 1048576 := t1.1
  go_wp2_with fail
  refine (eqDecisionS_same Ag Aw cg cw ((decsR L0 L1).1) _ (og.own.at_) (ow.own.at_) (by omega) HR2.out).mono ?_
  rintro e w16 ⟨rfl, hb⟩
  replace ow := DecsIn.below ow hb
  replace og := DecsIn.below og hb
  replace ox1 := own_below ox1 hb
  replace B := B.trans (hb.mono B.size)
  replace lim_ow := Nat.le_trans lim_ow hb.size
  replace lim_og := Nat.le_trans lim_og hb.size
  clear hb
  go_wp2_with fail
  refine (markDecisionS_any _ Ag cg ((decsR L0 L1).1) 1 _ og.own hR1 HR2.out (by decide) (by decide) lim_og).mono ?_
  rintro e w17 ⟨rfl, ho, hb⟩
  replace ow := DecsIn.low ow hb (Nat.le_refl _)
  replace B := B.trans (hb.mono bz_og)
  replace og := DecsOwn.in_ ho
  clear ho hb lim_og lim_ow
  go_wp2_with fail
  refine (heldDecisionS_any Ag cg ((decsR L0 L1).1) 1 _ (og.own.at_) hR1 HR2.out (by decide) (by decide)).mono ?_
  rintro e w18 ⟨rfl, hb⟩
  replace og := DecsIn.below og hb
  replace ow := DecsIn.below ow hb
  replace B := B.trans (hb.mono B.size)
  clear hb
  go_wp2_with fail
  refine (toClauseS_some A0 cap0 L0 _ (aw0.below B) t0.1).mono ?_
  rintro e w19 ⟨gq0, rfl, oq0, hb⟩
  replace og := DecsIn.below og hb
  replace ow := DecsIn.below ow hb
  have bs_oq0 := B.size
  replace B := B.trans (hb.mono B.size)
  clear hb
  have hcp0 := own_caps oq0
  go_wp2_with fail
  refine (toEventS_any A1 cap1 L1 _ (aw1.below B) t1.1).mono ?_
  rintro e w20 ⟨Aq1, cq1, rfl, oq1, hb⟩
  replace og := DecsIn.below og hb
  replace ow := DecsIn.below ow hb
  have ap_oq0_oq1 := Lib.hid (own_apart oq0 oq1 (Nat.le_refl _))
  have bs_oq1 := B.size
  replace oq0 := own_below oq0 hb
  replace B := B.trans (hb.mono B.size)
  clear hb
  have bz_oh := B.size
  go_wp2_with fail
  refine (DecideLog_impl _ _ _ L0 Aq1 cq1 L1 _ (Clause.At.of_own oq0) (Event.At.of_own oq1) t0.2 t1.2 m0 m1 hcp0.1 hcp0.2).mono ?_
  rintro e w21 ⟨Ah, ch, rfl, oh, hb⟩
  replace og := DecsIn.below og hb
  replace ow := DecsIn.below (DecsOwn.in_ ow.own) hb
  replace oq0 := own_below oq0 hb
  replace oq1 := own_below oq1 hb
  replace B := B.trans (hb.mono B.size)
  replace oh := DecsOwn.in_ oh
  have lim_oh := hb.size
  clear hb
  clear hcp0
  go_wp2_with fail
  refine (eqDecisionS_same Ah Aw ch cw ((decsR L0 L1).1) _ (oh.own.at_) (ow.own.at_) (by omega) HR2.out).mono ?_
  rintro e w22 ⟨rfl, hb⟩
  replace og := DecsIn.below og hb
  replace ow := DecsIn.below ow hb
  replace oh := DecsIn.below oh hb
  replace oq0 := own_below oq0 hb
  replace oq1 := own_below oq1 hb
  replace B := B.trans (hb.mono B.size)
  replace lim_oh := Nat.le_trans lim_oh hb.size
  clear hb
  go_wp2_with fail
  refine (heldDecisionS_any Ag cg ((decsR L0 L1).1) 1 _ (og.own.at_) hR1 HR2.out (by decide) (by decide)).mono ?_
  rintro e w23 ⟨rfl, hb⟩
  replace og := DecsIn.below og hb
  replace ow := DecsIn.below ow hb
  replace oh := DecsIn.below oh hb
  replace oq0 := own_below oq0 hb
  replace oq1 := own_below oq1 hb
  replace B := B.trans (hb.mono B.size)
  replace lim_oh := Nat.le_trans lim_oh hb.size
  clear hb
  go_wp2
  go_ret
  exact ⟨rfl, B⟩

/-! ### FnExactDecideLog: from the walk to the given statement -/
set_option maxRecDepth 100000 in
theorem fnExactDecideLog_lifted (os : Os) (started : os.Started) (H : Type) (enc : TypeId × Value → H) :
    ReturnsInHanded {} Try.checked os 11 .any (Rows.fnExactDecideLogSpec.pre6 enc Try.prog Try.f11 Rows.fnExactDecideLogRow.domain false) (Rows.fnExactDecideLogSpec.post enc Try.prog Try.f11 false true false false) := by
  refine returnsInHanded_of_change (C := Try.checked) own started (by kernel_rfl) Try.func11
    (ChangeSpec.witness6 (enc := enc) (C := Try.checked) false ⟨#[], #[.slice none 0 0, .slice none 0 0], []⟩ 8 (by kernel_rfl) (by kernel_rfl) (by kernel_rfl) (by kernel_rfl)) ?_
  intro W base args ds gs before hval0 hW hcnd _
  have hval : ∀ (j : Nat) t v, Try.f11.params[j]? = some t → args[j]? = some v → Value.okWide Try.prog W .any base t v := hval0
  have hW' := hW
  obtain ⟨p, q, hA0, hV, rfl, hfz, hnd⟩ := hW
  have hA : DataW.TrodAll enc Try.prog W 0 (fun _ => true) true Try.f11.params.toList args.toList ds p := hA0
  rw [Try.params11] at hA hval
  obtain ⟨v0, vs0, d0, ds0, p0, q0, hargs, rfl, rfl, h0, r0⟩ := trodAll_cons hA
  obtain ⟨v1, vs1, d1, ds1, p1, q1, rfl, rfl, rfl, h1, r1⟩ := trodAll_cons r0
  obtain ⟨rfl, rfl, rfl⟩ := trodAll_nil r1
  obtain rfl : args = #[v0, v1] := by cases args; simp_all
  obtain ⟨rfl, rfl⟩ := trodVars_none hV
  have k0 := h0
  have lt0 : ∀ x ∈ p0, x.block < W.heap.size := by obtain ⟨m, hm⟩ := k0; exact DataW.trod_lt m _ _ _ hm
  obtain ⟨A0, len0, cap0, e0⟩ := okWide_slice Try.underlying39 (hval 0 39 v0 rfl rfl)
  subst e0
  obtain ⟨fuel0, hf0⟩ := h0
  obtain ⟨L0, l0, w0, s0, m0⟩ := Clause.open_slice (show DataW.trod enc Try.prog W 0 (fun _ => true) true fuel0 39 [.slice A0 len0 cap0] = some (d0, p0) by simpa [Value.cells] using hf0)
  subst l0
  have k1 := h1
  have lt1 : ∀ x ∈ p1, x.block < W.heap.size := by obtain ⟨m, hm⟩ := k1; exact DataW.trod_lt m _ _ _ hm
  obtain ⟨A1, len1, cap1, e1⟩ := okWide_slice Try.underlying60 (hval 1 60 v1 rfl rfl)
  subst e1
  obtain ⟨fuel1, hf1⟩ := h1
  obtain ⟨L1, l1, w1, s1, m1⟩ := Event.open_slice (show DataW.trod enc Try.prog W 0 (fun _ => true) true fuel1 60 [.slice A1 len1 cap1] = some (d1, p1) by simpa [Value.cells] using hf1)
  subst l1
  clear hA0 hval0
  refine (fnExactDecideLog_walk W A0 cap0 L0 w0 s0 m0 A1 cap1 L1 w1 s1 m1).mono fun e W' ⟨he, bel⟩ => ?_
  subst he
  exact ⟨_, rfl, _, _, _, [], _, [], hW', trodAll_mk1 (shut_bool Try.underlying4 _), (trodAll_cons_mk (Below.trod laidOut (by kernel_rfl) (of_decide_eq_true (by kernel_rfl)) k0 bel lt0) (trodAll_cons_mk (Below.trod laidOut (by kernel_rfl) (of_decide_eq_true (by kernel_rfl)) k1 bel lt1) trodAll_mk0)), rfl, bel.frame _, fun h => by cases h⟩

theorem fnExactDecideLog_over : Rows.fnExactDecideLogRow.holds Try.pinned (OpenSpec.ofChange Rows.fnExactDecideLogSpec) :=
  OpenClaim.holds_of_wide 11 Try.f11 rfl rfl rfl rfl rfl rfl rfl ⟨rfl, rfl, rfl, rfl, rfl⟩ rfl rfl rfl rfl rfl (by kernel_rfl) Try.func11 (by kernel_rfl)
    (of_decide_eq_true (by kernel_rfl)) (by unfold Func.isWrapper; first | (rw [if_pos (by decide +kernel)]; kernel_rfl) | (rw [if_neg (by decide +kernel)]; exact ⟨rfl, rfl⟩))
    (fun os started H enc _ => fnExactDecideLog_lifted os started H enc)

theorem fnExactDecideLog_holds : Rows.FnExactDecideLogSaid := fnExactDecideLog_over
#print axioms fnExactDecideLog_holds
end Go.Proofs.Ythhfhdekhgkcaaa
