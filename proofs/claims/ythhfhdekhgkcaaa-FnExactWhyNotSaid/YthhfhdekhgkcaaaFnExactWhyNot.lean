/-
  FnExactWhyNot: the law returns true for every input, and its arguments read afterwards as before. No condition beyond the row's own.
-/
import Derived.Test.YthhfhdekhgkcaaaMatches
import Derived.Test.YthhfhdekhgkcaaaClauseOpen
import Derived.Test.YthhfhdekhgkcaaaEventOpen
namespace Go.Proofs.Ythhfhdekhgkcaaa
open Go.RowKit Go.ChangeShapes Go.WideShapes Go.ChangeAt

set_option maxHeartbeats 4000000 in
set_option maxRecDepth 100000 in
theorem fnExactWhyNot_walk (w : World) (a0 : Clause) (s0 : a0.small) (a1 : Event) (s1 : a1.small) :
    Calls Try.prog 5 #[a0.val, a1.val] w fun e w' => e = .returned (.bool true) ∧ Below w.heap.size w w' := by
  have B := ((Below.refl w.heap.size w).alloc (Nat.le_refl _) (.cells #[.string a0.code, .int .i64 a0.kind, .int .i64 a0.peril, .int .i64 a0.voluntary, .int .i64 a0.reasonable, .int .i64 a0.result, .string a0.to] 23)).alloc (by simp) (.cells #[.int .i64 a1.day, .int .i64 a1.kind, .string a1.interest, .int .i64 a1.amount, .bool a1.peril, .bool a1.voluntary, .bool a1.reasonable] 30)
  have d0_0 := made_cell w #[.string a0.code, .int .i64 a0.kind, .int .i64 a0.peril, .int .i64 a0.voluntary, .int .i64 a0.reasonable, .int .i64 a0.result, .string a0.to] 23 0 (.string a0.code) rfl
  have d0_1 := made_cell w #[.string a0.code, .int .i64 a0.kind, .int .i64 a0.peril, .int .i64 a0.voluntary, .int .i64 a0.reasonable, .int .i64 a0.result, .string a0.to] 23 1 (.int .i64 a0.kind) rfl
  have d0_2 := made_cell w #[.string a0.code, .int .i64 a0.kind, .int .i64 a0.peril, .int .i64 a0.voluntary, .int .i64 a0.reasonable, .int .i64 a0.result, .string a0.to] 23 2 (.int .i64 a0.peril) rfl
  have d0_3 := made_cell w #[.string a0.code, .int .i64 a0.kind, .int .i64 a0.peril, .int .i64 a0.voluntary, .int .i64 a0.reasonable, .int .i64 a0.result, .string a0.to] 23 3 (.int .i64 a0.voluntary) rfl
  have d0_4 := made_cell w #[.string a0.code, .int .i64 a0.kind, .int .i64 a0.peril, .int .i64 a0.voluntary, .int .i64 a0.reasonable, .int .i64 a0.result, .string a0.to] 23 4 (.int .i64 a0.reasonable) rfl
  have d0_5 := made_cell w #[.string a0.code, .int .i64 a0.kind, .int .i64 a0.peril, .int .i64 a0.voluntary, .int .i64 a0.reasonable, .int .i64 a0.result, .string a0.to] 23 5 (.int .i64 a0.result) rfl
  have d0_6 := made_cell w #[.string a0.code, .int .i64 a0.kind, .int .i64 a0.peril, .int .i64 a0.voluntary, .int .i64 a0.reasonable, .int .i64 a0.result, .string a0.to] 23 6 (.string a0.to) rfl
  have d1_0 := made_cell (w.alloc (.cells #[.string a0.code, .int .i64 a0.kind, .int .i64 a0.peril, .int .i64 a0.voluntary, .int .i64 a0.reasonable, .int .i64 a0.result, .string a0.to] 23)) #[.int .i64 a1.day, .int .i64 a1.kind, .string a1.interest, .int .i64 a1.amount, .bool a1.peril, .bool a1.voluntary, .bool a1.reasonable] 30 0 (.int .i64 a1.day) rfl
  have d1_1 := made_cell (w.alloc (.cells #[.string a0.code, .int .i64 a0.kind, .int .i64 a0.peril, .int .i64 a0.voluntary, .int .i64 a0.reasonable, .int .i64 a0.result, .string a0.to] 23)) #[.int .i64 a1.day, .int .i64 a1.kind, .string a1.interest, .int .i64 a1.amount, .bool a1.peril, .bool a1.voluntary, .bool a1.reasonable] 30 1 (.int .i64 a1.kind) rfl
  have d1_2 := made_cell (w.alloc (.cells #[.string a0.code, .int .i64 a0.kind, .int .i64 a0.peril, .int .i64 a0.voluntary, .int .i64 a0.reasonable, .int .i64 a0.result, .string a0.to] 23)) #[.int .i64 a1.day, .int .i64 a1.kind, .string a1.interest, .int .i64 a1.amount, .bool a1.peril, .bool a1.voluntary, .bool a1.reasonable] 30 2 (.string a1.interest) rfl
  have d1_3 := made_cell (w.alloc (.cells #[.string a0.code, .int .i64 a0.kind, .int .i64 a0.peril, .int .i64 a0.voluntary, .int .i64 a0.reasonable, .int .i64 a0.result, .string a0.to] 23)) #[.int .i64 a1.day, .int .i64 a1.kind, .string a1.interest, .int .i64 a1.amount, .bool a1.peril, .bool a1.voluntary, .bool a1.reasonable] 30 3 (.int .i64 a1.amount) rfl
  have d1_4 := made_cell (w.alloc (.cells #[.string a0.code, .int .i64 a0.kind, .int .i64 a0.peril, .int .i64 a0.voluntary, .int .i64 a0.reasonable, .int .i64 a0.result, .string a0.to] 23)) #[.int .i64 a1.day, .int .i64 a1.kind, .string a1.interest, .int .i64 a1.amount, .bool a1.peril, .bool a1.voluntary, .bool a1.reasonable] 30 4 (.bool a1.peril) rfl
  have d1_5 := made_cell (w.alloc (.cells #[.string a0.code, .int .i64 a0.kind, .int .i64 a0.peril, .int .i64 a0.voluntary, .int .i64 a0.reasonable, .int .i64 a0.result, .string a0.to] 23)) #[.int .i64 a1.day, .int .i64 a1.kind, .string a1.interest, .int .i64 a1.amount, .bool a1.peril, .bool a1.voluntary, .bool a1.reasonable] 30 5 (.bool a1.voluntary) rfl
  have d1_6 := made_cell (w.alloc (.cells #[.string a0.code, .int .i64 a0.kind, .int .i64 a0.peril, .int .i64 a0.voluntary, .int .i64 a0.reasonable, .int .i64 a0.result, .string a0.to] 23)) #[.int .i64 a1.day, .int .i64 a1.kind, .string a1.interest, .int .i64 a1.amount, .bool a1.peril, .bool a1.voluntary, .bool a1.reasonable] 30 6 (.bool a1.reasonable) rfl
  replace d0_0 := below_cell ((Below.refl (w.alloc (.cells #[.string a0.code, .int .i64 a0.kind, .int .i64 a0.peril, .int .i64 a0.voluntary, .int .i64 a0.reasonable, .int .i64 a0.result, .string a0.to] 23)).heap.size (w.alloc (.cells #[.string a0.code, .int .i64 a0.kind, .int .i64 a0.peril, .int .i64 a0.voluntary, .int .i64 a0.reasonable, .int .i64 a0.result, .string a0.to] 23))).alloc (Nat.le_refl _) (.cells #[.int .i64 a1.day, .int .i64 a1.kind, .string a1.interest, .int .i64 a1.amount, .bool a1.peril, .bool a1.voluntary, .bool a1.reasonable] 30)) d0_0
  replace d0_1 := below_cell ((Below.refl (w.alloc (.cells #[.string a0.code, .int .i64 a0.kind, .int .i64 a0.peril, .int .i64 a0.voluntary, .int .i64 a0.reasonable, .int .i64 a0.result, .string a0.to] 23)).heap.size (w.alloc (.cells #[.string a0.code, .int .i64 a0.kind, .int .i64 a0.peril, .int .i64 a0.voluntary, .int .i64 a0.reasonable, .int .i64 a0.result, .string a0.to] 23))).alloc (Nat.le_refl _) (.cells #[.int .i64 a1.day, .int .i64 a1.kind, .string a1.interest, .int .i64 a1.amount, .bool a1.peril, .bool a1.voluntary, .bool a1.reasonable] 30)) d0_1
  replace d0_2 := below_cell ((Below.refl (w.alloc (.cells #[.string a0.code, .int .i64 a0.kind, .int .i64 a0.peril, .int .i64 a0.voluntary, .int .i64 a0.reasonable, .int .i64 a0.result, .string a0.to] 23)).heap.size (w.alloc (.cells #[.string a0.code, .int .i64 a0.kind, .int .i64 a0.peril, .int .i64 a0.voluntary, .int .i64 a0.reasonable, .int .i64 a0.result, .string a0.to] 23))).alloc (Nat.le_refl _) (.cells #[.int .i64 a1.day, .int .i64 a1.kind, .string a1.interest, .int .i64 a1.amount, .bool a1.peril, .bool a1.voluntary, .bool a1.reasonable] 30)) d0_2
  replace d0_3 := below_cell ((Below.refl (w.alloc (.cells #[.string a0.code, .int .i64 a0.kind, .int .i64 a0.peril, .int .i64 a0.voluntary, .int .i64 a0.reasonable, .int .i64 a0.result, .string a0.to] 23)).heap.size (w.alloc (.cells #[.string a0.code, .int .i64 a0.kind, .int .i64 a0.peril, .int .i64 a0.voluntary, .int .i64 a0.reasonable, .int .i64 a0.result, .string a0.to] 23))).alloc (Nat.le_refl _) (.cells #[.int .i64 a1.day, .int .i64 a1.kind, .string a1.interest, .int .i64 a1.amount, .bool a1.peril, .bool a1.voluntary, .bool a1.reasonable] 30)) d0_3
  replace d0_4 := below_cell ((Below.refl (w.alloc (.cells #[.string a0.code, .int .i64 a0.kind, .int .i64 a0.peril, .int .i64 a0.voluntary, .int .i64 a0.reasonable, .int .i64 a0.result, .string a0.to] 23)).heap.size (w.alloc (.cells #[.string a0.code, .int .i64 a0.kind, .int .i64 a0.peril, .int .i64 a0.voluntary, .int .i64 a0.reasonable, .int .i64 a0.result, .string a0.to] 23))).alloc (Nat.le_refl _) (.cells #[.int .i64 a1.day, .int .i64 a1.kind, .string a1.interest, .int .i64 a1.amount, .bool a1.peril, .bool a1.voluntary, .bool a1.reasonable] 30)) d0_4
  replace d0_5 := below_cell ((Below.refl (w.alloc (.cells #[.string a0.code, .int .i64 a0.kind, .int .i64 a0.peril, .int .i64 a0.voluntary, .int .i64 a0.reasonable, .int .i64 a0.result, .string a0.to] 23)).heap.size (w.alloc (.cells #[.string a0.code, .int .i64 a0.kind, .int .i64 a0.peril, .int .i64 a0.voluntary, .int .i64 a0.reasonable, .int .i64 a0.result, .string a0.to] 23))).alloc (Nat.le_refl _) (.cells #[.int .i64 a1.day, .int .i64 a1.kind, .string a1.interest, .int .i64 a1.amount, .bool a1.peril, .bool a1.voluntary, .bool a1.reasonable] 30)) d0_5
  replace d0_6 := below_cell ((Below.refl (w.alloc (.cells #[.string a0.code, .int .i64 a0.kind, .int .i64 a0.peril, .int .i64 a0.voluntary, .int .i64 a0.reasonable, .int .i64 a0.result, .string a0.to] 23)).heap.size (w.alloc (.cells #[.string a0.code, .int .i64 a0.kind, .int .i64 a0.peril, .int .i64 a0.voluntary, .int .i64 a0.reasonable, .int .i64 a0.result, .string a0.to] 23))).alloc (Nat.le_refl _) (.cells #[.int .i64 a1.day, .int .i64 a1.kind, .string a1.interest, .int .i64 a1.amount, .bool a1.peril, .bool a1.voluntary, .bool a1.reasonable] 30)) d0_6
  simp only [World.size_alloc] at d1_0 d1_1 d1_2 d1_3 d1_4 d1_5 d1_6
  have S : w.heap.size + 2 ≤ ((w.alloc (.cells #[.string a0.code, .int .i64 a0.kind, .int .i64 a0.peril, .int .i64 a0.voluntary, .int .i64 a0.reasonable, .int .i64 a0.result, .string a0.to] 23)).alloc (.cells #[.int .i64 a1.day, .int .i64 a1.kind, .string a1.interest, .int .i64 a1.amount, .bool a1.peril, .bool a1.voluntary, .bool a1.reasonable] 30)).heap.size := by simp
  go_enter Try.func5, Try.ntmps5
  go_wp2_with fail
  refine (szClause_any a0 _ s0 (by first | decide | omega) (by first | decide | omega) _).mono ?_
  rintro e w1 ⟨r0, rfl, hr1, hr0, hr3, hb⟩
  replace d0_0 := below_cell hb d0_0
  replace d0_1 := below_cell hb d0_1
  replace d0_2 := below_cell hb d0_2
  replace d0_3 := below_cell hb d0_3
  replace d0_4 := below_cell hb d0_4
  replace d0_5 := below_cell hb d0_5
  replace d0_6 := below_cell hb d0_6
  replace d1_0 := below_cell hb d1_0
  replace d1_1 := below_cell hb d1_1
  replace d1_2 := below_cell hb d1_2
  replace d1_3 := below_cell hb d1_3
  replace d1_4 := below_cell hb d1_4
  replace d1_5 := below_cell hb d1_5
  replace d1_6 := below_cell hb d1_6
  replace S := Nat.le_trans S hb.size
  replace B := B.trans (hb.mono B.size)
  clear hb
  by_cases hr : r0 < 0
  · go_wp2
    go_ret
    exact ⟨rfl, B⟩
  replace hr : 0 ≤ r0 := by omega
  have t0 := hr3.out hr
  clear hr1 hr3
  go_wp2_with fail
  refine (szEvent_any a1 _ s1 (by first | decide | omega) (by first | decide | omega) _).mono ?_
  rintro e w2 ⟨r1, rfl, hr1, hr1, hr3, hb⟩
  replace d0_0 := below_cell hb d0_0
  replace d0_1 := below_cell hb d0_1
  replace d0_2 := below_cell hb d0_2
  replace d0_3 := below_cell hb d0_3
  replace d0_4 := below_cell hb d0_4
  replace d0_5 := below_cell hb d0_5
  replace d0_6 := below_cell hb d0_6
  replace d1_0 := below_cell hb d1_0
  replace d1_1 := below_cell hb d1_1
  replace d1_2 := below_cell hb d1_2
  replace d1_3 := below_cell hb d1_3
  replace d1_4 := below_cell hb d1_4
  replace d1_5 := below_cell hb d1_5
  replace d1_6 := below_cell hb d1_6
  replace S := Nat.le_trans S hb.size
  replace B := B.trans (hb.mono B.size)
  clear hb
  by_cases hr : r1 < 0
  · go_wp2
    go_ret
    exact ⟨rfl, B⟩
  replace hr : 0 ≤ r1 := by omega
  have t1 := hr3.out hr
  clear hr1 hr3
  go_wp2
  have fd0_0 := fun x : BW w2 => x.cell d0_0
  have fd0_1 := fun x : BW w2 => x.cell d0_1
  have fd0_2 := fun x : BW w2 => x.cell d0_2
  have fd0_3 := fun x : BW w2 => x.cell d0_3
  have fd0_4 := fun x : BW w2 => x.cell d0_4
  have fd0_5 := fun x : BW w2 => x.cell d0_5
  have fd0_6 := fun x : BW w2 => x.cell d0_6
  have fd1_0 := fun x : BW w2 => x.cell d1_0
  have fd1_1 := fun x : BW w2 => x.cell d1_1
  have fd1_2 := fun x : BW w2 => x.cell d1_2
  have fd1_3 := fun x : BW w2 => x.cell d1_3
  have fd1_4 := fun x : BW w2 => x.cell d1_4
  have fd1_5 := fun x : BW w2 => x.cell d1_5
  have fd1_6 := fun x : BW w2 => x.cell d1_6
  refine wp_region_bw (by kernel_rfl) (by kernel_rfl) ?_
  repeat (go_big_quiet_step (first | (go_at_call 17; exact bw_of _ (toClause_any a0 _)) | (go_at_call 21; exact bw_of _ (toEvent_any a1 _)) | (go_at_call 23; exact bw_of _ (WhyNot_spec a0 a1 t0 t1 _))))
  refine wpQuiet_nil ?_
  intro w3 hx
  have hb := bw_out hx
  clear hx fd0_0 fd0_1 fd0_2 fd0_3 fd0_4 fd0_5 fd0_6 fd1_0 fd1_1 fd1_2 fd1_3 fd1_4 fd1_5 fd1_6
  replace d0_0 := below_cell hb d0_0
  replace d0_1 := below_cell hb d0_1
  replace d0_2 := below_cell hb d0_2
  replace d0_3 := below_cell hb d0_3
  replace d0_4 := below_cell hb d0_4
  replace d0_5 := below_cell hb d0_5
  replace d0_6 := below_cell hb d0_6
  replace d1_0 := below_cell hb d1_0
  replace d1_1 := below_cell hb d1_1
  replace d1_2 := below_cell hb d1_2
  replace d1_3 := below_cell hb d1_3
  replace d1_4 := below_cell hb d1_4
  replace d1_5 := below_cell hb d1_5
  replace d1_6 := below_cell hb d1_6
  replace S := Nat.le_trans S hb.size
  replace B := B.trans (hb.mono B.size)
  clear hb
  go_wp2
  have fd0_0 := fun x : BW w3 => x.cell d0_0
  have fd0_1 := fun x : BW w3 => x.cell d0_1
  have fd0_2 := fun x : BW w3 => x.cell d0_2
  have fd0_3 := fun x : BW w3 => x.cell d0_3
  have fd0_4 := fun x : BW w3 => x.cell d0_4
  have fd0_5 := fun x : BW w3 => x.cell d0_5
  have fd0_6 := fun x : BW w3 => x.cell d0_6
  have fd1_0 := fun x : BW w3 => x.cell d1_0
  have fd1_1 := fun x : BW w3 => x.cell d1_1
  have fd1_2 := fun x : BW w3 => x.cell d1_2
  have fd1_3 := fun x : BW w3 => x.cell d1_3
  have fd1_4 := fun x : BW w3 => x.cell d1_4
  have fd1_5 := fun x : BW w3 => x.cell d1_5
  have fd1_6 := fun x : BW w3 => x.cell d1_6
  refine wp_region_bw (by kernel_rfl) (by kernel_rfl) ?_
  repeat (go_big_quiet_step (first | (go_at_call 17; exact bw_of _ (toClause_any a0 _)) | (go_at_call 21; exact bw_of _ (toEvent_any a1 _)) | (go_at_call 24; exact bw_of _ (WhyNot_impl a0 a1 t0 t1 _))))
  refine wpQuiet_nil ?_
  intro w4 hx
  have hb := bw_out hx
  clear hx fd0_0 fd0_1 fd0_2 fd0_3 fd0_4 fd0_5 fd0_6 fd1_0 fd1_1 fd1_2 fd1_3 fd1_4 fd1_5 fd1_6
  replace d0_0 := below_cell hb d0_0
  replace d0_1 := below_cell hb d0_1
  replace d0_2 := below_cell hb d0_2
  replace d0_3 := below_cell hb d0_3
  replace d0_4 := below_cell hb d0_4
  replace d0_5 := below_cell hb d0_5
  replace d0_6 := below_cell hb d0_6
  replace d1_0 := below_cell hb d1_0
  replace d1_1 := below_cell hb d1_1
  replace d1_2 := below_cell hb d1_2
  replace d1_3 := below_cell hb d1_3
  replace d1_4 := below_cell hb d1_4
  replace d1_5 := below_cell hb d1_5
  replace d1_6 := below_cell hb d1_6
  replace S := Nat.le_trans S hb.size
  replace B := B.trans (hb.mono B.size)
  clear hb
  go_wp2
  go_ret
  exact ⟨rfl, B⟩

/-! ### FnExactWhyNot: from the walk to the given statement -/
set_option maxRecDepth 100000 in
theorem fnExactWhyNot_lifted (os : Os) (started : os.Started) (H : Type) (enc : TypeId × Value → H) :
    ReturnsInHanded {} Try.checked os 5 .any (Rows.fnExactWhyNotSpec.pre6 enc Try.prog Try.f5 Rows.fnExactWhyNotRow.domain false) (Rows.fnExactWhyNotSpec.post enc Try.prog Try.f5 false true false false) := by
  refine returnsInHanded_of_change (C := Try.checked) own started (by kernel_rfl) Try.func5
    (ChangeSpec.witness6 (enc := enc) (C := Try.checked) false ⟨#[], #[.agg #[.string ⟨#[]⟩, .int .i64 0, .int .i64 0, .int .i64 0, .int .i64 0, .int .i64 0, .string ⟨#[]⟩], .agg #[.int .i64 0, .int .i64 0, .string ⟨#[]⟩, .int .i64 0, .bool false, .bool false, .bool false]], []⟩ 8 (by kernel_rfl) (by kernel_rfl) (by kernel_rfl) (by kernel_rfl)) ?_
  intro W base args ds gs before hval0 hW hcnd _
  have hval : ∀ (j : Nat) t v, Try.f5.params[j]? = some t → args[j]? = some v → Value.okWide Try.prog W .any base t v := hval0
  have hW' := hW
  obtain ⟨p, q, hA0, hV, rfl, hfz, hnd⟩ := hW
  have hA : DataW.TrodAll enc Try.prog W 0 (fun _ => true) true Try.f5.params.toList args.toList ds p := hA0
  rw [Try.params5] at hA hval
  obtain ⟨v0, vs0, d0, ds0, p0, q0, hargs, rfl, rfl, h0, r0⟩ := trodAll_cons hA
  obtain ⟨v1, vs1, d1, ds1, p1, q1, rfl, rfl, rfl, h1, r1⟩ := trodAll_cons r0
  obtain ⟨rfl, rfl, rfl⟩ := trodAll_nil r1
  obtain rfl : args = #[v0, v1] := by cases args; simp_all
  obtain ⟨rfl, rfl⟩ := trodVars_none hV
  have k0 := h0
  have lt0 : ∀ x ∈ p0, x.block < W.heap.size := by obtain ⟨m, hm⟩ := k0; exact DataW.trod_lt m _ _ _ hm
  obtain ⟨a0, e0, s0⟩ := Clause.open_val (hval 0 23 v0 rfl rfl) h0
  subst e0
  have k1 := h1
  have lt1 : ∀ x ∈ p1, x.block < W.heap.size := by obtain ⟨m, hm⟩ := k1; exact DataW.trod_lt m _ _ _ hm
  obtain ⟨a1, e1, s1⟩ := Event.open_val (hval 1 30 v1 rfl rfl) h1
  subst e1
  clear hA0 hval0
  refine (fnExactWhyNot_walk W a0 s0 a1 s1).mono fun e W' ⟨he, bel⟩ => ?_
  subst he
  exact ⟨_, rfl, _, _, _, [], _, [], hW', trodAll_mk1 (shut_bool Try.underlying4 _), (trodAll_cons_mk (Below.trod laidOut (by kernel_rfl) (of_decide_eq_true (by kernel_rfl)) k0 bel lt0) (trodAll_cons_mk (Below.trod laidOut (by kernel_rfl) (of_decide_eq_true (by kernel_rfl)) k1 bel lt1) trodAll_mk0)), rfl, bel.frame _, fun h => by cases h⟩

theorem fnExactWhyNot_over : Rows.fnExactWhyNotRow.holds Try.pinned (OpenSpec.ofChange Rows.fnExactWhyNotSpec) :=
  OpenClaim.holds_of_wide 5 Try.f5 rfl rfl rfl rfl rfl rfl rfl ⟨rfl, rfl, rfl, rfl, rfl⟩ rfl rfl rfl rfl rfl (by kernel_rfl) Try.func5 (by kernel_rfl)
    (of_decide_eq_true (by kernel_rfl)) (by unfold Func.isWrapper; first | (rw [if_pos (by decide +kernel)]; kernel_rfl) | (rw [if_neg (by decide +kernel)]; exact ⟨rfl, rfl⟩))
    (fun os started H enc _ => fnExactWhyNot_lifted os started H enc)

theorem fnExactWhyNot_holds : Rows.FnExactWhyNotSaid := fnExactWhyNot_over
#print axioms fnExactWhyNot_holds
end Go.Proofs.Ythhfhdekhgkcaaa
