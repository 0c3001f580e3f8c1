/-
  FnExactDecideEvent: the law returns true for every input, and its arguments read afterwards as before. No condition beyond the row's own.
-/
import Derived.Test.YthhfhdekhgkcaaaDecEvent
import Derived.Test.YthhfhdekhgkcaaaClauseOpen
import Derived.Test.YthhfhdekhgkcaaaEventOpen
namespace Go.Proofs.Ythhfhdekhgkcaaa
open Go.RowKit Go.ChangeShapes Go.WideShapes Go.ChangeAt

set_option maxHeartbeats 16000000 in
set_option maxRecDepth 100000 in
theorem fnExactDecideEvent_walk (w : World) (A0 : Option Addr) (cap0 : Nat) (L0 : List Clause) (aw0 : Clause.At w A0 L0) (s0 : ∀ s ∈ L0, s.small) (m0 : L0.length ≤ 9223372036854775807) (a1 : Event) (s1 : a1.small) :
    Calls Try.prog 10 #[.slice A0 L0.length cap0, a1.val] w fun e w' => e = .returned (.bool true) ∧ Below w.heap.size w w' := by
  have B := (Below.refl w.heap.size w).alloc (Nat.le_refl _) (.cells #[.int .i64 a1.day, .int .i64 a1.kind, .string a1.interest, .int .i64 a1.amount, .bool a1.peril, .bool a1.voluntary, .bool a1.reasonable] 30)
  have d1_0 := made_cell w #[.int .i64 a1.day, .int .i64 a1.kind, .string a1.interest, .int .i64 a1.amount, .bool a1.peril, .bool a1.voluntary, .bool a1.reasonable] 30 0 (.int .i64 a1.day) rfl
  have d1_1 := made_cell w #[.int .i64 a1.day, .int .i64 a1.kind, .string a1.interest, .int .i64 a1.amount, .bool a1.peril, .bool a1.voluntary, .bool a1.reasonable] 30 1 (.int .i64 a1.kind) rfl
  have d1_2 := made_cell w #[.int .i64 a1.day, .int .i64 a1.kind, .string a1.interest, .int .i64 a1.amount, .bool a1.peril, .bool a1.voluntary, .bool a1.reasonable] 30 2 (.string a1.interest) rfl
  have d1_3 := made_cell w #[.int .i64 a1.day, .int .i64 a1.kind, .string a1.interest, .int .i64 a1.amount, .bool a1.peril, .bool a1.voluntary, .bool a1.reasonable] 30 3 (.int .i64 a1.amount) rfl
  have d1_4 := made_cell w #[.int .i64 a1.day, .int .i64 a1.kind, .string a1.interest, .int .i64 a1.amount, .bool a1.peril, .bool a1.voluntary, .bool a1.reasonable] 30 4 (.bool a1.peril) rfl
  have d1_5 := made_cell w #[.int .i64 a1.day, .int .i64 a1.kind, .string a1.interest, .int .i64 a1.amount, .bool a1.peril, .bool a1.voluntary, .bool a1.reasonable] 30 5 (.bool a1.voluntary) rfl
  have d1_6 := made_cell w #[.int .i64 a1.day, .int .i64 a1.kind, .string a1.interest, .int .i64 a1.amount, .bool a1.peril, .bool a1.voluntary, .bool a1.reasonable] 30 6 (.bool a1.reasonable) rfl
  have S : w.heap.size + 1 ≤ (w.alloc (.cells #[.int .i64 a1.day, .int .i64 a1.kind, .string a1.interest, .int .i64 a1.amount, .bool a1.peril, .bool a1.voluntary, .bool a1.reasonable] 30)).heap.size := by simp
  go_enter Try.func10, Try.ntmps10
  go_wp2_with fail
  refine (szClauseS_any A0 cap0 L0 _ _ (aw0.below B) s0 m0 (by omega) (by omega)).mono ?_
  rintro e w1 ⟨r0, rfl, hr1, hr0, hr3, hb⟩
  replace d1_0 := below_cell hb d1_0
  replace d1_1 := below_cell hb d1_1
  replace d1_2 := below_cell hb d1_2
  replace d1_3 := below_cell hb d1_3
  replace d1_4 := below_cell hb d1_4
  replace d1_5 := below_cell hb d1_5
  replace d1_6 := below_cell hb d1_6
  replace S := Nat.le_trans S hb.size
  replace B := B.trans (hb.mono B.size)
  clear hb
  by_cases hr : r0 < 0
  · go_wp2
    go_ret
    exact ⟨rfl, B⟩
  replace hr : 0 ≤ r0 := by omega
  have t0 := hr3.out hr
  clear hr1 hr3
  go_wp2_with fail
  refine (szEvent_any a1 _ s1 (by first | decide | omega) (by first | decide | omega) _).mono ?_
  rintro e w2 ⟨r1, rfl, hr1, hr1, hr3, hb⟩
  replace d1_0 := below_cell hb d1_0
  replace d1_1 := below_cell hb d1_1
  replace d1_2 := below_cell hb d1_2
  replace d1_3 := below_cell hb d1_3
  replace d1_4 := below_cell hb d1_4
  replace d1_5 := below_cell hb d1_5
  replace d1_6 := below_cell hb d1_6
  replace S := Nat.le_trans S hb.size
  replace B := B.trans (hb.mono B.size)
  clear hb
  by_cases hr : r1 < 0
  · go_wp2
    go_ret
    exact ⟨rfl, B⟩
  replace hr : 0 ≤ r1 := by omega
  have t1 := hr3.out hr
  clear hr1 hr3
  have h12 := decE_12 L0 a1
  have hR : (((decE L0 a1).1).2).length ≤ 1048576 := by omega
  have hR2 : (((decE L0 a1).1).2).length ≤ 9223372036854775807 := by omega
  go_upto_region 8 with (fail)
  have R := Below.refl w2.heap.size w2
  have e1_0 := d1_0
  have e1_1 := d1_1
  have e1_2 := d1_2
  have e1_3 := d1_3
  have e1_4 := d1_4
  have e1_5 := d1_5
  have e1_6 := d1_6
  have d1a_0 := below_cell ((Below.refl _ _).alloc (Nat.le_refl _) (.cells #[.int .i64 0, .slice none 0 0] 53)) e1_0
  have d1a_1 := below_cell ((Below.refl _ _).alloc (Nat.le_refl _) (.cells #[.int .i64 0, .slice none 0 0] 53)) e1_1
  have d1a_2 := below_cell ((Below.refl _ _).alloc (Nat.le_refl _) (.cells #[.int .i64 0, .slice none 0 0] 53)) e1_2
  have d1a_3 := below_cell ((Below.refl _ _).alloc (Nat.le_refl _) (.cells #[.int .i64 0, .slice none 0 0] 53)) e1_3
  have d1a_4 := below_cell ((Below.refl _ _).alloc (Nat.le_refl _) (.cells #[.int .i64 0, .slice none 0 0] 53)) e1_4
  have d1a_5 := below_cell ((Below.refl _ _).alloc (Nat.le_refl _) (.cells #[.int .i64 0, .slice none 0 0] 53)) e1_5
  have d1a_6 := below_cell ((Below.refl _ _).alloc (Nat.le_refl _) (.cells #[.int .i64 0, .slice none 0 0] 53)) e1_6
  go_cut [6, 7] from 26 to 33 (fun sa sb wx => ∃ p Aw cw, sa = .pointer (some ⟨p, 0, none⟩) ∧ sb = .int .i64 ((decE L0 a1).2) ∧ wx.cell? ⟨p, 0, none⟩ = some (.int .i64 ((decE L0 a1).1).1) ∧ wx.cell? ⟨p, 1, none⟩ = some (.slice Aw (((decE L0 a1).1).2).length cw) ∧ wx.ownsRow w2.heap.size 9 1 (.slice Aw (((decE L0 a1).1).2).length cw) (((decE L0 a1).1).2).length (Texts.flat ((decE L0 a1).1).2) ∧ Below w2.heap.size w2 wx)
  case first =>
    go_region_law (first | (go_simp; go_at_call 27; refine (toClauseS_some A0 cap0 L0 _ (by first | exact aw0.below (B.trans ((R).mono B.size)) | exact aw0.below (B.trans ((R.drew).mono B.size)) | exact aw0.below (B.trans ((R.alloc R.size _).mono B.size)) | exact aw0.below (B.trans (((R.alloc R.size _).drew).mono B.size))) t0.1).mono ?_; rintro e wa ⟨gp, rfl, op, hb⟩; (try (first | (have pb := World.block_lt_of_cell? _ _ y0; have yf := fun j => (hb.frozen (p := ⟨_, j, none⟩) pb).trans (yf j); have y0 := below_cell hb y0; have y1 := below_cell hb y1) | (have pb := World.block_lt_of_cell? _ _ (made_cell wb #[.int .i64 0, .slice none 0 0] 53 0 (.int .i64 0) rfl); have yW : w2.heap.size ≤ wb.heap.size := R.size; have y0 := below_cell hb (made_cell wb #[.int .i64 0, .slice none 0 0] 53 0 (.int .i64 0) rfl); have y1 := below_cell hb (made_cell wb #[.int .i64 0, .slice none 0 0] 53 1 (.slice none 0 0) rfl); have yf := fun j => (hb.frozen (p := ⟨wb.heap.size, j, none⟩) pb).trans (frozen_of_row _ _ j _ _ (heap_alloc_new wb _))) | (have pb := World.block_lt_of_cell? _ _ (made_cell wa #[.int .i64 0, .slice none 0 0] 53 0 (.int .i64 0) rfl); have yW : w2.heap.size ≤ wa.heap.size := R.size; have y0 := below_cell hb (made_cell wa #[.int .i64 0, .slice none 0 0] 53 0 (.int .i64 0) rfl); have y1 := below_cell hb (made_cell wa #[.int .i64 0, .slice none 0 0] 53 1 (.slice none 0 0) rfl); have yf := fun j => (hb.frozen (p := ⟨wa.heap.size, j, none⟩) pb).trans (frozen_of_row _ _ j _ _ (heap_alloc_new wa _))) | (have pb := World.block_lt_of_cell? _ _ (made_cell w2 #[.int .i64 0, .slice none 0 0] 53 0 (.int .i64 0) rfl); have yW : w2.heap.size ≤ w2.heap.size := R.size; have y0 := below_cell hb (made_cell w2 #[.int .i64 0, .slice none 0 0] 53 0 (.int .i64 0) rfl); have y1 := below_cell hb (made_cell w2 #[.int .i64 0, .slice none 0 0] 53 1 (.slice none 0 0) rfl); have yf := fun j => (hb.frozen (p := ⟨w2.heap.size, j, none⟩) pb).trans (frozen_of_row _ _ j _ _ (heap_alloc_new w2 _))))); have R := (by first | exact R.trans (hb.mono R.size) | exact (R.drew).trans (hb.mono R.size) | exact (R.alloc R.size _).trans (hb.mono (R.alloc R.size _).size) | exact ((R.alloc R.size _).drew).trans (hb.mono (R.alloc R.size _).size) : Below w2.heap.size w2 wa); have hAp := Clause.At.of_own op; have hcp := own_caps op; have d1_0 := below_cell R e1_0; have d1a_0 := below_cell ((Below.refl _ _).alloc (Nat.le_refl _) (.cells #[.int .i64 0, .slice none 0 0] 53)) d1_0; have d1_1 := below_cell R e1_1; have d1a_1 := below_cell ((Below.refl _ _).alloc (Nat.le_refl _) (.cells #[.int .i64 0, .slice none 0 0] 53)) d1_1; have d1_2 := below_cell R e1_2; have d1a_2 := below_cell ((Below.refl _ _).alloc (Nat.le_refl _) (.cells #[.int .i64 0, .slice none 0 0] 53)) d1_2; have d1_3 := below_cell R e1_3; have d1a_3 := below_cell ((Below.refl _ _).alloc (Nat.le_refl _) (.cells #[.int .i64 0, .slice none 0 0] 53)) d1_3; have d1_4 := below_cell R e1_4; have d1a_4 := below_cell ((Below.refl _ _).alloc (Nat.le_refl _) (.cells #[.int .i64 0, .slice none 0 0] 53)) d1_4; have d1_5 := below_cell R e1_5; have d1a_5 := below_cell ((Below.refl _ _).alloc (Nat.le_refl _) (.cells #[.int .i64 0, .slice none 0 0] 53)) d1_5; have d1_6 := below_cell R e1_6; have d1a_6 := below_cell ((Below.refl _ _).alloc (Nat.le_refl _) (.cells #[.int .i64 0, .slice none 0 0] 53)) d1_6; clear hb op) | (go_simp; go_at_call 21; refine (toEvent_any a1 _).mono ?_; rintro e wb ⟨rfl, hb⟩; (try (first | (have pb := World.block_lt_of_cell? _ _ y0; have yf := fun j => (hb.frozen (p := ⟨_, j, none⟩) pb).trans (yf j); have y0 := below_cell hb y0; have y1 := below_cell hb y1) | (have pb := World.block_lt_of_cell? _ _ (made_cell wb #[.int .i64 0, .slice none 0 0] 53 0 (.int .i64 0) rfl); have yW : w2.heap.size ≤ wb.heap.size := R.size; have y0 := below_cell hb (made_cell wb #[.int .i64 0, .slice none 0 0] 53 0 (.int .i64 0) rfl); have y1 := below_cell hb (made_cell wb #[.int .i64 0, .slice none 0 0] 53 1 (.slice none 0 0) rfl); have yf := fun j => (hb.frozen (p := ⟨wb.heap.size, j, none⟩) pb).trans (frozen_of_row _ _ j _ _ (heap_alloc_new wb _))) | (have pb := World.block_lt_of_cell? _ _ (made_cell wa #[.int .i64 0, .slice none 0 0] 53 0 (.int .i64 0) rfl); have yW : w2.heap.size ≤ wa.heap.size := R.size; have y0 := below_cell hb (made_cell wa #[.int .i64 0, .slice none 0 0] 53 0 (.int .i64 0) rfl); have y1 := below_cell hb (made_cell wa #[.int .i64 0, .slice none 0 0] 53 1 (.slice none 0 0) rfl); have yf := fun j => (hb.frozen (p := ⟨wa.heap.size, j, none⟩) pb).trans (frozen_of_row _ _ j _ _ (heap_alloc_new wa _))) | (have pb := World.block_lt_of_cell? _ _ (made_cell w2 #[.int .i64 0, .slice none 0 0] 53 0 (.int .i64 0) rfl); have yW : w2.heap.size ≤ w2.heap.size := R.size; have y0 := below_cell hb (made_cell w2 #[.int .i64 0, .slice none 0 0] 53 0 (.int .i64 0) rfl); have y1 := below_cell hb (made_cell w2 #[.int .i64 0, .slice none 0 0] 53 1 (.slice none 0 0) rfl); have yf := fun j => (hb.frozen (p := ⟨w2.heap.size, j, none⟩) pb).trans (frozen_of_row _ _ j _ _ (heap_alloc_new w2 _))))); have R := (by first | exact R.trans (hb.mono R.size) | exact (R.drew).trans (hb.mono R.size) | exact (R.alloc R.size _).trans (hb.mono (R.alloc R.size _).size) | exact ((R.alloc R.size _).drew).trans (hb.mono (R.alloc R.size _).size) : Below w2.heap.size w2 wb); (try (first | have hAp := hAp.below hb | have hAp := (hAp.below ((Below.refl _ _).alloc (Nat.le_refl _) _)).below hb)); have d1_0 := below_cell R e1_0; have d1a_0 := below_cell ((Below.refl _ _).alloc (Nat.le_refl _) (.cells #[.int .i64 0, .slice none 0 0] 53)) d1_0; have d1_1 := below_cell R e1_1; have d1a_1 := below_cell ((Below.refl _ _).alloc (Nat.le_refl _) (.cells #[.int .i64 0, .slice none 0 0] 53)) d1_1; have d1_2 := below_cell R e1_2; have d1a_2 := below_cell ((Below.refl _ _).alloc (Nat.le_refl _) (.cells #[.int .i64 0, .slice none 0 0] 53)) d1_2; have d1_3 := below_cell R e1_3; have d1a_3 := below_cell ((Below.refl _ _).alloc (Nat.le_refl _) (.cells #[.int .i64 0, .slice none 0 0] 53)) d1_3; have d1_4 := below_cell R e1_4; have d1a_4 := below_cell ((Below.refl _ _).alloc (Nat.le_refl _) (.cells #[.int .i64 0, .slice none 0 0] 53)) d1_4; have d1_5 := below_cell R e1_5; have d1a_5 := below_cell ((Below.refl _ _).alloc (Nat.le_refl _) (.cells #[.int .i64 0, .slice none 0 0] 53)) d1_5; have d1_6 := below_cell R e1_6; have d1a_6 := below_cell ((Below.refl _ _).alloc (Nat.le_refl _) (.cells #[.int .i64 0, .slice none 0 0] 53)) d1_6; clear hb) | (go_simp; go_at_call 36; refine (DecideEvent_spec _ _ L0 a1 _ (by first | exact hAp | exact hAp.below ((Below.refl _ _).alloc (Nat.le_refl _) _)) t0.2 t1 (by omega)).mono ?_; rintro e wd ⟨Aw, cw, rfl, ow, hb⟩; have owW := (by first | exact own_base ow R.size | exact own_base ow (R.alloc R.size _).size : wd.ownsRow w2.heap.size 9 1 (.slice Aw (((decE L0 a1).1).2).length cw) (((decE L0 a1).1).2).length (Texts.flat ((decE L0 a1).1).2)); (try (first | (have pb := World.block_lt_of_cell? _ _ y0; have yf := fun j => (hb.frozen (p := ⟨_, j, none⟩) pb).trans (yf j); have y0 := below_cell hb y0; have y1 := below_cell hb y1) | (have pb := World.block_lt_of_cell? _ _ (made_cell wb #[.int .i64 0, .slice none 0 0] 53 0 (.int .i64 0) rfl); have yW : w2.heap.size ≤ wb.heap.size := R.size; have y0 := below_cell hb (made_cell wb #[.int .i64 0, .slice none 0 0] 53 0 (.int .i64 0) rfl); have y1 := below_cell hb (made_cell wb #[.int .i64 0, .slice none 0 0] 53 1 (.slice none 0 0) rfl); have yf := fun j => (hb.frozen (p := ⟨wb.heap.size, j, none⟩) pb).trans (frozen_of_row _ _ j _ _ (heap_alloc_new wb _))) | (have pb := World.block_lt_of_cell? _ _ (made_cell wa #[.int .i64 0, .slice none 0 0] 53 0 (.int .i64 0) rfl); have yW : w2.heap.size ≤ wa.heap.size := R.size; have y0 := below_cell hb (made_cell wa #[.int .i64 0, .slice none 0 0] 53 0 (.int .i64 0) rfl); have y1 := below_cell hb (made_cell wa #[.int .i64 0, .slice none 0 0] 53 1 (.slice none 0 0) rfl); have yf := fun j => (hb.frozen (p := ⟨wa.heap.size, j, none⟩) pb).trans (frozen_of_row _ _ j _ _ (heap_alloc_new wa _))) | (have pb := World.block_lt_of_cell? _ _ (made_cell w2 #[.int .i64 0, .slice none 0 0] 53 0 (.int .i64 0) rfl); have yW : w2.heap.size ≤ w2.heap.size := R.size; have y0 := below_cell hb (made_cell w2 #[.int .i64 0, .slice none 0 0] 53 0 (.int .i64 0) rfl); have y1 := below_cell hb (made_cell w2 #[.int .i64 0, .slice none 0 0] 53 1 (.slice none 0 0) rfl); have yf := fun j => (hb.frozen (p := ⟨w2.heap.size, j, none⟩) pb).trans (frozen_of_row _ _ j _ _ (heap_alloc_new w2 _))))); have R := (by first | exact R.trans (hb.mono R.size) | exact (R.drew).trans (hb.mono R.size) | exact (R.alloc R.size _).trans (hb.mono (R.alloc R.size _).size) | exact ((R.alloc R.size _).drew).trans (hb.mono (R.alloc R.size _).size) : Below w2.heap.size w2 wd); clear hb))
    all_goals (go_wp2_with fail; go_meet; first | exact ⟨_, Aw, cw, rfl, rfl, made_cell wd #[.int .i64 ((decE L0 a1).1).1, .slice Aw (((decE L0 a1).1).2).length cw] 53 0 (.int .i64 ((decE L0 a1).1).1) rfl, made_cell wd #[.int .i64 ((decE L0 a1).1).1, .slice Aw (((decE L0 a1).1).2).length cw] 53 1 (.slice Aw (((decE L0 a1).1).2).length cw) rfl, owW.alloc _, R.alloc R.size _⟩ | exact ⟨_, Aw, cw, rfl, rfl, dec_put R yW pb ow owW y0 y1⟩)
  obtain ⟨pw, Aw, cw, rfl, rfl, zw0, zw1, ow, hb⟩ := hcut
  clear R e1_0 d1a_0 e1_1 d1a_1 e1_2 d1a_2 e1_3 d1a_3 e1_4 d1a_4 e1_5 d1a_5 e1_6 d1a_6
  have bs_ow := B.size
  have sz_ow := S
  replace d1_0 := below_cell hb d1_0
  replace d1_1 := below_cell hb d1_1
  replace d1_2 := below_cell hb d1_2
  replace d1_3 := below_cell hb d1_3
  replace d1_4 := below_cell hb d1_4
  replace d1_5 := below_cell hb d1_5
  replace d1_6 := below_cell hb d1_6
  replace S := Nat.le_trans S hb.size
  replace B := B.trans (hb.mono B.size)
  clear hb
  go_wp2_with fail
  refine (toClauseS_some A0 cap0 L0 _ (aw0.below B) t0.1).mono ?_
  rintro e w4 ⟨gx0, rfl, ox0, hb⟩
  have ap_ow_ox0 := Lib.hid (own_apart ow ox0 (Nat.le_refl _))
  have bs_ox0 := B.size
  have sz_ox0 := S
  have pl_w_ox0 := World.block_lt_of_cell? _ _ zw0
  replace ow := own_below ow hb
  replace d1_0 := below_cell hb d1_0
  replace d1_1 := below_cell hb d1_1
  replace d1_2 := below_cell hb d1_2
  replace d1_3 := below_cell hb d1_3
  replace d1_4 := below_cell hb d1_4
  replace d1_5 := below_cell hb d1_5
  replace d1_6 := below_cell hb d1_6
  replace zw0 := below_cell hb zw0
  replace zw1 := below_cell hb zw1
  replace S := Nat.le_trans S hb.size
  replace B := B.trans (hb.mono B.size)
  clear hb
  have hcp := own_caps ox0
  go_wp2_with fail
  refine (toEvent_any a1 _).mono ?_
  rintro e w5 ⟨rfl, hb⟩
  replace ow := own_below ow hb
  replace ox0 := own_below ox0 hb
  replace d1_0 := below_cell hb d1_0
  replace d1_1 := below_cell hb d1_1
  replace d1_2 := below_cell hb d1_2
  replace d1_3 := below_cell hb d1_3
  replace d1_4 := below_cell hb d1_4
  replace d1_5 := below_cell hb d1_5
  replace d1_6 := below_cell hb d1_6
  replace zw0 := below_cell hb zw0
  replace zw1 := below_cell hb zw1
  replace S := Nat.le_trans S hb.size
  replace B := B.trans (hb.mono B.size)
  clear hb
  go_wp2_with fail
  refine (DecideEvent_impl _ _ _ L0 a1 _ (Clause.At.of_own ox0) t0.2 t1 (by omega) hcp.1 hcp.2).mono ?_
  rintro e w6 ⟨Ag, cg, rfl, og, hb⟩
  have ap_ow_og := Lib.hid (own_apart ow og (Nat.le_refl _))
  have ap_ox0_og := Lib.hid (own_apart ox0 og (Nat.le_refl _))
  have bs_og := B.size
  have sz_og := S
  have pl_w_og := World.block_lt_of_cell? _ _ zw0
  replace ow := own_below ow hb
  replace ox0 := own_below ox0 hb
  replace d1_0 := below_cell hb d1_0
  replace d1_1 := below_cell hb d1_1
  replace d1_2 := below_cell hb d1_2
  replace d1_3 := below_cell hb d1_3
  replace d1_4 := below_cell hb d1_4
  replace d1_5 := below_cell hb d1_5
  replace d1_6 := below_cell hb d1_6
  replace zw0 := below_cell hb zw0
  replace zw1 := below_cell hb zw1
  replace S := Nat.le_trans S hb.size
  replace B := B.trans (hb.mono B.size)
  clear hb
  clear hcp
  have hA : Below w6.heap.size w6 (w6.alloc (.cells #[.int .i64 ((decE L0 a1).1).1, .slice Ag (((decE L0 a1).1).2).length cg] 53)) := (Below.refl _ _).alloc (Nat.le_refl _) _
  have zg0 := made_cell w6 #[.int .i64 ((decE L0 a1).1).1, .slice Ag (((decE L0 a1).1).2).length cg] 53 0 (.int .i64 ((decE L0 a1).1).1) rfl
  have zg1 := made_cell w6 #[.int .i64 ((decE L0 a1).1).1, .slice Ag (((decE L0 a1).1).2).length cg] 53 1 (.slice Ag (((decE L0 a1).1).2).length cg) rfl
  have nb_ow_g := Lib.hid (fun b (hb : _ = some b) => (ow.lt b ((ownBlock_map _ _ _).trans hb)).2)
  have nb_ox0_g := Lib.hid (fun b (hb : _ = some b) => (ox0.lt b ((ownBlock_map _ _ _).trans hb)).2)
  have nb_og_g := Lib.hid (fun b (hb : _ = some b) => (og.lt b ((ownBlock_map _ _ _).trans hb)).2)
  replace ow := own_below ow hA
  replace ox0 := own_below ox0 hA
  replace og := own_below og hA
  replace d1_0 := below_cell hA d1_0
  replace d1_1 := below_cell hA d1_1
  replace d1_2 := below_cell hA d1_2
  replace d1_3 := below_cell hA d1_3
  replace d1_4 := below_cell hA d1_4
  replace d1_5 := below_cell hA d1_5
  replace d1_6 := below_cell hA d1_6
  replace zw0 := below_cell hA zw0
  replace zw1 := below_cell hA zw1
  replace S := Nat.le_trans S hA.size
  replace B := B.trans (hA.mono B.size)
  clear hA
  go_wp2_with fail
  refine (eqDecision_same ((decE L0 a1).1).1 Ag Aw cg cw (((decE L0 a1).1).2) _ (Texts.At.of_own og) (Texts.At.of_own ow) hR2).mono ?_
  rintro e w7 ⟨rfl, hb⟩
  replace ow := own_below ow hb
  replace ox0 := own_below ox0 hb
  replace og := own_below og hb
  replace d1_0 := below_cell hb d1_0
  replace d1_1 := below_cell hb d1_1
  replace d1_2 := below_cell hb d1_2
  replace d1_3 := below_cell hb d1_3
  replace d1_4 := below_cell hb d1_4
  replace d1_5 := below_cell hb d1_5
  replace d1_6 := below_cell hb d1_6
  replace zw0 := below_cell hb zw0
  replace zw1 := below_cell hb zw1
  replace zg0 := below_cell hb zg0
  replace zg1 := below_cell hb zg1
  replace S := Nat.le_trans S hb.size
  replace B := B.trans (hb.mono B.size)
  clear hb
  go_wp2_with fail
  refine (toClauseS_any A0 cap0 L0 _ (aw0.below B) t0.1).mono ?_
  rintro e w8 ⟨Ay0, cy0, rfl, oy0, hb⟩
  have ap_ow_oy0 := Lib.hid (own_apart ow oy0 (Nat.le_refl _))
  have ap_ox0_oy0 := Lib.hid (own_apart ox0 oy0 (Nat.le_refl _))
  have ap_og_oy0 := Lib.hid (own_apart og oy0 (Nat.le_refl _))
  have bs_oy0 := B.size
  have sz_oy0 := S
  have pl_w_oy0 := World.block_lt_of_cell? _ _ zw0
  have pl_g_oy0 := World.block_lt_of_cell? _ _ zg0
  replace ow := own_below ow hb
  replace ox0 := own_below ox0 hb
  replace og := own_below og hb
  replace d1_0 := below_cell hb d1_0
  replace d1_1 := below_cell hb d1_1
  replace d1_2 := below_cell hb d1_2
  replace d1_3 := below_cell hb d1_3
  replace d1_4 := below_cell hb d1_4
  replace d1_5 := below_cell hb d1_5
  replace d1_6 := below_cell hb d1_6
  replace zw0 := below_cell hb zw0
  replace zw1 := below_cell hb zw1
  replace zg0 := below_cell hb zg0
  replace zg1 := below_cell hb zg1
  replace S := Nat.le_trans S hb.size
  replace B := B.trans (hb.mono B.size)
  clear hb
  go_wp2_with fail
  refine (eqClauseS_same _ Ay0 _ cy0 L0 _ (Clause.At.of_own ox0) (Clause.At.of_own oy0) m0).mono ?_
  rintro e w9 ⟨rfl, hb⟩
  replace ow := own_below ow hb
  replace ox0 := own_below ox0 hb
  replace og := own_below og hb
  replace oy0 := own_below oy0 hb
  replace d1_0 := below_cell hb d1_0
  replace d1_1 := below_cell hb d1_1
  replace d1_2 := below_cell hb d1_2
  replace d1_3 := below_cell hb d1_3
  replace d1_4 := below_cell hb d1_4
  replace d1_5 := below_cell hb d1_5
  replace d1_6 := below_cell hb d1_6
  replace zw0 := below_cell hb zw0
  replace zw1 := below_cell hb zw1
  replace zg0 := below_cell hb zg0
  replace zg1 := below_cell hb zg1
  replace S := Nat.le_trans S hb.size
  replace B := B.trans (hb.mono B.size)
  clear hb
  clear oy0
  go_wp2_with fail
  refine (markClauseS_any _ _ _ L0 (1) _ ox0 t0.1 (by decide) (by decide)).mono ?_
  rintro e w10 ⟨rfl, ho, hg⟩
  replace ow := own_kept ow hg ap_ow_ox0.out.1
  replace og := own_kept og hg ap_ox0_og.out.2
  replace d1_0 := mark_cell ox0 hg d1_0 (by dsimp only; omega)
  replace d1_1 := mark_cell ox0 hg d1_1 (by dsimp only; omega)
  replace d1_2 := mark_cell ox0 hg d1_2 (by dsimp only; omega)
  replace d1_3 := mark_cell ox0 hg d1_3 (by dsimp only; omega)
  replace d1_4 := mark_cell ox0 hg d1_4 (by dsimp only; omega)
  replace d1_5 := mark_cell ox0 hg d1_5 (by dsimp only; omega)
  replace d1_6 := mark_cell ox0 hg d1_6 (by dsimp only; omega)
  replace zw0 := mark_cell ox0 hg zw0 pl_w_ox0
  replace zw1 := mark_cell ox0 hg zw1 pl_w_ox0
  replace zg0 := hg.cell zg0 (fun e => absurd (nb_ox0_g.out _ e.symm) (Nat.lt_irrefl _))
  replace zg1 := hg.cell zg1 (fun e => absurd (nb_ox0_g.out _ e.symm) (Nat.lt_irrefl _))
  replace S := Nat.le_trans S hg.size
  replace B := below_mark B ox0 hg bs_ox0
  replace ox0 := ho
  clear ho hg
  have hmk0 : L0.length ≤ 1048576 := t0.1
  go_wp2_with fail
  refine (eqDecision_same ((decE L0 a1).1).1 Ag Aw cg cw (((decE L0 a1).1).2) _ (Texts.At.of_own og) (Texts.At.of_own ow) hR2).mono ?_
  rintro e w11 ⟨rfl, hb⟩
  replace ow := own_below ow hb
  replace ox0 := own_below ox0 hb
  replace og := own_below og hb
  replace d1_0 := below_cell hb d1_0
  replace d1_1 := below_cell hb d1_1
  replace d1_2 := below_cell hb d1_2
  replace d1_3 := below_cell hb d1_3
  replace d1_4 := below_cell hb d1_4
  replace d1_5 := below_cell hb d1_5
  replace d1_6 := below_cell hb d1_6
  replace zw0 := below_cell hb zw0
  replace zw1 := below_cell hb zw1
  replace zg0 := below_cell hb zg0
  replace zg1 := below_cell hb zg1
  replace S := Nat.le_trans S hb.size
  replace B := B.trans (hb.mono B.size)
  clear hb
  go_wp2_with fail
  refine (markDecision_any _ ((decE L0 a1).1).1 Ag cg (((decE L0 a1).1).2) 1 _ og hR (by decide) (by decide)).mono ?_
  rintro e w12 ⟨rfl, ho, hg⟩
  replace ow := own_kept ow hg ap_ow_og.out.1
  clear ox0
  replace d1_0 := mark_cell og hg d1_0 (by dsimp only; omega)
  replace d1_1 := mark_cell og hg d1_1 (by dsimp only; omega)
  replace d1_2 := mark_cell og hg d1_2 (by dsimp only; omega)
  replace d1_3 := mark_cell og hg d1_3 (by dsimp only; omega)
  replace d1_4 := mark_cell og hg d1_4 (by dsimp only; omega)
  replace d1_5 := mark_cell og hg d1_5 (by dsimp only; omega)
  replace d1_6 := mark_cell og hg d1_6 (by dsimp only; omega)
  replace zw0 := mark_cell og hg zw0 pl_w_og
  replace zw1 := mark_cell og hg zw1 pl_w_og
  replace zg0 := hg.cell zg0 (fun e => absurd (nb_og_g.out _ e.symm) (Nat.lt_irrefl _))
  replace zg1 := hg.cell zg1 (fun e => absurd (nb_og_g.out _ e.symm) (Nat.lt_irrefl _))
  replace S := Nat.le_trans S hg.size
  replace B := below_mark B og hg bs_og
  replace og := ho
  clear ho hg
  go_wp2_with fail
  refine (heldDecision_any ((decE L0 a1).1).1 Ag cg (((decE L0 a1).1).2).length 1 _ (Texts.At.of_own (L := Texts.marks 1 (((decE L0 a1).1).2).length) (by rw [Texts.marks_len]; exact og)) hR (by decide) (by decide)).mono ?_
  rintro e w13 ⟨rfl, hb⟩
  replace ow := own_below ow hb
  replace og := own_below og hb
  replace d1_0 := below_cell hb d1_0
  replace d1_1 := below_cell hb d1_1
  replace d1_2 := below_cell hb d1_2
  replace d1_3 := below_cell hb d1_3
  replace d1_4 := below_cell hb d1_4
  replace d1_5 := below_cell hb d1_5
  replace d1_6 := below_cell hb d1_6
  replace zw0 := below_cell hb zw0
  replace zw1 := below_cell hb zw1
  replace zg0 := below_cell hb zg0
  replace zg1 := below_cell hb zg1
  replace S := Nat.le_trans S hb.size
  replace B := B.trans (hb.mono B.size)
  clear hb
  go_upto_region 27 with (fail)
  have R := Below.refl w13.heap.size w13
  have e1_0 := d1_0
  have e1_1 := d1_1
  have e1_2 := d1_2
  have e1_3 := d1_3
  have e1_4 := d1_4
  have e1_5 := d1_5
  have e1_6 := d1_6
  have d1a_0 := below_cell ((Below.refl _ _).alloc (Nat.le_refl _) (.cells #[.int .i64 0, .slice none 0 0] 53)) e1_0
  have d1a_1 := below_cell ((Below.refl _ _).alloc (Nat.le_refl _) (.cells #[.int .i64 0, .slice none 0 0] 53)) e1_1
  have d1a_2 := below_cell ((Below.refl _ _).alloc (Nat.le_refl _) (.cells #[.int .i64 0, .slice none 0 0] 53)) e1_2
  have d1a_3 := below_cell ((Below.refl _ _).alloc (Nat.le_refl _) (.cells #[.int .i64 0, .slice none 0 0] 53)) e1_3
  have d1a_4 := below_cell ((Below.refl _ _).alloc (Nat.le_refl _) (.cells #[.int .i64 0, .slice none 0 0] 53)) e1_4
  have d1a_5 := below_cell ((Below.refl _ _).alloc (Nat.le_refl _) (.cells #[.int .i64 0, .slice none 0 0] 53)) e1_5
  have d1a_6 := below_cell ((Below.refl _ _).alloc (Nat.le_refl _) (.cells #[.int .i64 0, .slice none 0 0] 53)) e1_6
  go_cut [14, 15] from 84 to 91 (fun sa sb wx => ∃ p Aw cw, sa = .pointer (some ⟨p, 0, none⟩) ∧ sb = .int .i64 ((decE L0 a1).2) ∧ wx.cell? ⟨p, 0, none⟩ = some (.int .i64 ((decE L0 a1).1).1) ∧ wx.cell? ⟨p, 1, none⟩ = some (.slice Aw (((decE L0 a1).1).2).length cw) ∧ wx.ownsRow w13.heap.size 9 1 (.slice Aw (((decE L0 a1).1).2).length cw) (((decE L0 a1).1).2).length (Texts.flat ((decE L0 a1).1).2) ∧ Below w13.heap.size w13 wx)
  case first =>
    go_region_law (first | (go_simp; go_at_call 27; refine (toClauseS_some A0 cap0 L0 _ (by first | exact aw0.below (B.trans ((R).mono B.size)) | exact aw0.below (B.trans ((R.drew).mono B.size)) | exact aw0.below (B.trans ((R.alloc R.size _).mono B.size)) | exact aw0.below (B.trans (((R.alloc R.size _).drew).mono B.size))) t0.1).mono ?_; rintro e wa ⟨gp, rfl, op, hb⟩; (try (first | (have pb := World.block_lt_of_cell? _ _ y0; have yf := fun j => (hb.frozen (p := ⟨_, j, none⟩) pb).trans (yf j); have y0 := below_cell hb y0; have y1 := below_cell hb y1) | (have pb := World.block_lt_of_cell? _ _ (made_cell wb #[.int .i64 0, .slice none 0 0] 53 0 (.int .i64 0) rfl); have yW : w13.heap.size ≤ wb.heap.size := R.size; have y0 := below_cell hb (made_cell wb #[.int .i64 0, .slice none 0 0] 53 0 (.int .i64 0) rfl); have y1 := below_cell hb (made_cell wb #[.int .i64 0, .slice none 0 0] 53 1 (.slice none 0 0) rfl); have yf := fun j => (hb.frozen (p := ⟨wb.heap.size, j, none⟩) pb).trans (frozen_of_row _ _ j _ _ (heap_alloc_new wb _))) | (have pb := World.block_lt_of_cell? _ _ (made_cell wa #[.int .i64 0, .slice none 0 0] 53 0 (.int .i64 0) rfl); have yW : w13.heap.size ≤ wa.heap.size := R.size; have y0 := below_cell hb (made_cell wa #[.int .i64 0, .slice none 0 0] 53 0 (.int .i64 0) rfl); have y1 := below_cell hb (made_cell wa #[.int .i64 0, .slice none 0 0] 53 1 (.slice none 0 0) rfl); have yf := fun j => (hb.frozen (p := ⟨wa.heap.size, j, none⟩) pb).trans (frozen_of_row _ _ j _ _ (heap_alloc_new wa _))) | (have pb := World.block_lt_of_cell? _ _ (made_cell w13 #[.int .i64 0, .slice none 0 0] 53 0 (.int .i64 0) rfl); have yW : w13.heap.size ≤ w13.heap.size := R.size; have y0 := below_cell hb (made_cell w13 #[.int .i64 0, .slice none 0 0] 53 0 (.int .i64 0) rfl); have y1 := below_cell hb (made_cell w13 #[.int .i64 0, .slice none 0 0] 53 1 (.slice none 0 0) rfl); have yf := fun j => (hb.frozen (p := ⟨w13.heap.size, j, none⟩) pb).trans (frozen_of_row _ _ j _ _ (heap_alloc_new w13 _))))); have R := (by first | exact R.trans (hb.mono R.size) | exact (R.drew).trans (hb.mono R.size) | exact (R.alloc R.size _).trans (hb.mono (R.alloc R.size _).size) | exact ((R.alloc R.size _).drew).trans (hb.mono (R.alloc R.size _).size) : Below w13.heap.size w13 wa); have hAp := Clause.At.of_own op; have hcp := own_caps op; have d1_0 := below_cell R e1_0; have d1a_0 := below_cell ((Below.refl _ _).alloc (Nat.le_refl _) (.cells #[.int .i64 0, .slice none 0 0] 53)) d1_0; have d1_1 := below_cell R e1_1; have d1a_1 := below_cell ((Below.refl _ _).alloc (Nat.le_refl _) (.cells #[.int .i64 0, .slice none 0 0] 53)) d1_1; have d1_2 := below_cell R e1_2; have d1a_2 := below_cell ((Below.refl _ _).alloc (Nat.le_refl _) (.cells #[.int .i64 0, .slice none 0 0] 53)) d1_2; have d1_3 := below_cell R e1_3; have d1a_3 := below_cell ((Below.refl _ _).alloc (Nat.le_refl _) (.cells #[.int .i64 0, .slice none 0 0] 53)) d1_3; have d1_4 := below_cell R e1_4; have d1a_4 := below_cell ((Below.refl _ _).alloc (Nat.le_refl _) (.cells #[.int .i64 0, .slice none 0 0] 53)) d1_4; have d1_5 := below_cell R e1_5; have d1a_5 := below_cell ((Below.refl _ _).alloc (Nat.le_refl _) (.cells #[.int .i64 0, .slice none 0 0] 53)) d1_5; have d1_6 := below_cell R e1_6; have d1a_6 := below_cell ((Below.refl _ _).alloc (Nat.le_refl _) (.cells #[.int .i64 0, .slice none 0 0] 53)) d1_6; clear hb op) | (go_simp; go_at_call 21; refine (toEvent_any a1 _).mono ?_; rintro e wb ⟨rfl, hb⟩; (try (first | (have pb := World.block_lt_of_cell? _ _ y0; have yf := fun j => (hb.frozen (p := ⟨_, j, none⟩) pb).trans (yf j); have y0 := below_cell hb y0; have y1 := below_cell hb y1) | (have pb := World.block_lt_of_cell? _ _ (made_cell wb #[.int .i64 0, .slice none 0 0] 53 0 (.int .i64 0) rfl); have yW : w13.heap.size ≤ wb.heap.size := R.size; have y0 := below_cell hb (made_cell wb #[.int .i64 0, .slice none 0 0] 53 0 (.int .i64 0) rfl); have y1 := below_cell hb (made_cell wb #[.int .i64 0, .slice none 0 0] 53 1 (.slice none 0 0) rfl); have yf := fun j => (hb.frozen (p := ⟨wb.heap.size, j, none⟩) pb).trans (frozen_of_row _ _ j _ _ (heap_alloc_new wb _))) | (have pb := World.block_lt_of_cell? _ _ (made_cell wa #[.int .i64 0, .slice none 0 0] 53 0 (.int .i64 0) rfl); have yW : w13.heap.size ≤ wa.heap.size := R.size; have y0 := below_cell hb (made_cell wa #[.int .i64 0, .slice none 0 0] 53 0 (.int .i64 0) rfl); have y1 := below_cell hb (made_cell wa #[.int .i64 0, .slice none 0 0] 53 1 (.slice none 0 0) rfl); have yf := fun j => (hb.frozen (p := ⟨wa.heap.size, j, none⟩) pb).trans (frozen_of_row _ _ j _ _ (heap_alloc_new wa _))) | (have pb := World.block_lt_of_cell? _ _ (made_cell w13 #[.int .i64 0, .slice none 0 0] 53 0 (.int .i64 0) rfl); have yW : w13.heap.size ≤ w13.heap.size := R.size; have y0 := below_cell hb (made_cell w13 #[.int .i64 0, .slice none 0 0] 53 0 (.int .i64 0) rfl); have y1 := below_cell hb (made_cell w13 #[.int .i64 0, .slice none 0 0] 53 1 (.slice none 0 0) rfl); have yf := fun j => (hb.frozen (p := ⟨w13.heap.size, j, none⟩) pb).trans (frozen_of_row _ _ j _ _ (heap_alloc_new w13 _))))); have R := (by first | exact R.trans (hb.mono R.size) | exact (R.drew).trans (hb.mono R.size) | exact (R.alloc R.size _).trans (hb.mono (R.alloc R.size _).size) | exact ((R.alloc R.size _).drew).trans (hb.mono (R.alloc R.size _).size) : Below w13.heap.size w13 wb); (try (first | have hAp := hAp.below hb | have hAp := (hAp.below ((Below.refl _ _).alloc (Nat.le_refl _) _)).below hb)); have d1_0 := below_cell R e1_0; have d1a_0 := below_cell ((Below.refl _ _).alloc (Nat.le_refl _) (.cells #[.int .i64 0, .slice none 0 0] 53)) d1_0; have d1_1 := below_cell R e1_1; have d1a_1 := below_cell ((Below.refl _ _).alloc (Nat.le_refl _) (.cells #[.int .i64 0, .slice none 0 0] 53)) d1_1; have d1_2 := below_cell R e1_2; have d1a_2 := below_cell ((Below.refl _ _).alloc (Nat.le_refl _) (.cells #[.int .i64 0, .slice none 0 0] 53)) d1_2; have d1_3 := below_cell R e1_3; have d1a_3 := below_cell ((Below.refl _ _).alloc (Nat.le_refl _) (.cells #[.int .i64 0, .slice none 0 0] 53)) d1_3; have d1_4 := below_cell R e1_4; have d1a_4 := below_cell ((Below.refl _ _).alloc (Nat.le_refl _) (.cells #[.int .i64 0, .slice none 0 0] 53)) d1_4; have d1_5 := below_cell R e1_5; have d1a_5 := below_cell ((Below.refl _ _).alloc (Nat.le_refl _) (.cells #[.int .i64 0, .slice none 0 0] 53)) d1_5; have d1_6 := below_cell R e1_6; have d1a_6 := below_cell ((Below.refl _ _).alloc (Nat.le_refl _) (.cells #[.int .i64 0, .slice none 0 0] 53)) d1_6; clear hb) | (go_simp; go_at_call 37; refine (DecideEvent_impl _ _ _ L0 a1 _ (by first | exact hAp | exact hAp.below ((Below.refl _ _).alloc (Nat.le_refl _) _)) t0.2 t1 (by omega) hcp.1 hcp.2).mono ?_; rintro e wd ⟨Aw, cw, rfl, ow, hb⟩; have owW := (by first | exact own_base ow R.size | exact own_base ow (R.alloc R.size _).size : wd.ownsRow w13.heap.size 9 1 (.slice Aw (((decE L0 a1).1).2).length cw) (((decE L0 a1).1).2).length (Texts.flat ((decE L0 a1).1).2)); (try (first | (have pb := World.block_lt_of_cell? _ _ y0; have yf := fun j => (hb.frozen (p := ⟨_, j, none⟩) pb).trans (yf j); have y0 := below_cell hb y0; have y1 := below_cell hb y1) | (have pb := World.block_lt_of_cell? _ _ (made_cell wb #[.int .i64 0, .slice none 0 0] 53 0 (.int .i64 0) rfl); have yW : w13.heap.size ≤ wb.heap.size := R.size; have y0 := below_cell hb (made_cell wb #[.int .i64 0, .slice none 0 0] 53 0 (.int .i64 0) rfl); have y1 := below_cell hb (made_cell wb #[.int .i64 0, .slice none 0 0] 53 1 (.slice none 0 0) rfl); have yf := fun j => (hb.frozen (p := ⟨wb.heap.size, j, none⟩) pb).trans (frozen_of_row _ _ j _ _ (heap_alloc_new wb _))) | (have pb := World.block_lt_of_cell? _ _ (made_cell wa #[.int .i64 0, .slice none 0 0] 53 0 (.int .i64 0) rfl); have yW : w13.heap.size ≤ wa.heap.size := R.size; have y0 := below_cell hb (made_cell wa #[.int .i64 0, .slice none 0 0] 53 0 (.int .i64 0) rfl); have y1 := below_cell hb (made_cell wa #[.int .i64 0, .slice none 0 0] 53 1 (.slice none 0 0) rfl); have yf := fun j => (hb.frozen (p := ⟨wa.heap.size, j, none⟩) pb).trans (frozen_of_row _ _ j _ _ (heap_alloc_new wa _))) | (have pb := World.block_lt_of_cell? _ _ (made_cell w13 #[.int .i64 0, .slice none 0 0] 53 0 (.int .i64 0) rfl); have yW : w13.heap.size ≤ w13.heap.size := R.size; have y0 := below_cell hb (made_cell w13 #[.int .i64 0, .slice none 0 0] 53 0 (.int .i64 0) rfl); have y1 := below_cell hb (made_cell w13 #[.int .i64 0, .slice none 0 0] 53 1 (.slice none 0 0) rfl); have yf := fun j => (hb.frozen (p := ⟨w13.heap.size, j, none⟩) pb).trans (frozen_of_row _ _ j _ _ (heap_alloc_new w13 _))))); have R := (by first | exact R.trans (hb.mono R.size) | exact (R.drew).trans (hb.mono R.size) | exact (R.alloc R.size _).trans (hb.mono (R.alloc R.size _).size) | exact ((R.alloc R.size _).drew).trans (hb.mono (R.alloc R.size _).size) : Below w13.heap.size w13 wd); clear hb))
    all_goals (go_wp2_with fail; go_meet; first | exact ⟨_, Aw, cw, rfl, rfl, made_cell wd #[.int .i64 ((decE L0 a1).1).1, .slice Aw (((decE L0 a1).1).2).length cw] 53 0 (.int .i64 ((decE L0 a1).1).1) rfl, made_cell wd #[.int .i64 ((decE L0 a1).1).1, .slice Aw (((decE L0 a1).1).2).length cw] 53 1 (.slice Aw (((decE L0 a1).1).2).length cw) rfl, owW.alloc _, R.alloc R.size _⟩ | exact ⟨_, Aw, cw, rfl, rfl, dec_put R yW pb ow owW y0 y1⟩)
  obtain ⟨ph, Ah, ch, rfl, rfl, zh0, zh1, oh, hb⟩ := hcut
  clear R e1_0 d1a_0 e1_1 d1a_1 e1_2 d1a_2 e1_3 d1a_3 e1_4 d1a_4 e1_5 d1a_5 e1_6 d1a_6
  have ap_ow_oh := Lib.hid (own_apart ow oh (Nat.le_refl _))
  have ap_og_oh := Lib.hid (own_apart og oh (Nat.le_refl _))
  have bs_oh := B.size
  have sz_oh := S
  replace ow := own_below ow hb
  replace og := own_below og hb
  replace d1_0 := below_cell hb d1_0
  replace d1_1 := below_cell hb d1_1
  replace d1_2 := below_cell hb d1_2
  replace d1_3 := below_cell hb d1_3
  replace d1_4 := below_cell hb d1_4
  replace d1_5 := below_cell hb d1_5
  replace d1_6 := below_cell hb d1_6
  replace zw0 := below_cell hb zw0
  replace zw1 := below_cell hb zw1
  replace zg0 := below_cell hb zg0
  replace zg1 := below_cell hb zg1
  replace S := Nat.le_trans S hb.size
  replace B := B.trans (hb.mono B.size)
  clear hb
  go_wp2_with fail
  refine (eqDecision_same ((decE L0 a1).1).1 Ah Aw ch cw (((decE L0 a1).1).2) _ (Texts.At.of_own oh) (Texts.At.of_own ow) hR2).mono ?_
  rintro e w15 ⟨rfl, hb⟩
  replace ow := own_below ow hb
  replace og := own_below og hb
  replace oh := own_below oh hb
  replace d1_0 := below_cell hb d1_0
  replace d1_1 := below_cell hb d1_1
  replace d1_2 := below_cell hb d1_2
  replace d1_3 := below_cell hb d1_3
  replace d1_4 := below_cell hb d1_4
  replace d1_5 := below_cell hb d1_5
  replace d1_6 := below_cell hb d1_6
  replace zw0 := below_cell hb zw0
  replace zw1 := below_cell hb zw1
  replace zg0 := below_cell hb zg0
  replace zg1 := below_cell hb zg1
  replace zh0 := below_cell hb zh0
  replace zh1 := below_cell hb zh1
  replace S := Nat.le_trans S hb.size
  replace B := B.trans (hb.mono B.size)
  clear hb
  go_wp2_with fail
  refine (heldDecision_any ((decE L0 a1).1).1 Ag cg (((decE L0 a1).1).2).length 1 _ (Texts.At.of_own (L := Texts.marks 1 (((decE L0 a1).1).2).length) (by rw [Texts.marks_len]; exact og)) hR (by decide) (by decide)).mono ?_
  rintro e w16 ⟨rfl, hb⟩
  replace ow := own_below ow hb
  replace og := own_below og hb
  replace oh := own_below oh hb
  replace d1_0 := below_cell hb d1_0
  replace d1_1 := below_cell hb d1_1
  replace d1_2 := below_cell hb d1_2
  replace d1_3 := below_cell hb d1_3
  replace d1_4 := below_cell hb d1_4
  replace d1_5 := below_cell hb d1_5
  replace d1_6 := below_cell hb d1_6
  replace zw0 := below_cell hb zw0
  replace zw1 := below_cell hb zw1
  replace zg0 := below_cell hb zg0
  replace zg1 := below_cell hb zg1
  replace zh0 := below_cell hb zh0
  replace zh1 := below_cell hb zh1
  replace S := Nat.le_trans S hb.size
  replace B := B.trans (hb.mono B.size)
  clear hb
  go_wp2
  go_ret
  exact ⟨rfl, B⟩

/-! ### FnExactDecideEvent: from the walk to the given statement -/
set_option maxRecDepth 100000 in
theorem fnExactDecideEvent_lifted (os : Os) (started : os.Started) (H : Type) (enc : TypeId × Value → H) :
    ReturnsInHanded {} Try.checked os 10 .any (Rows.fnExactDecideEventSpec.pre6 enc Try.prog Try.f10 Rows.fnExactDecideEventRow.domain false) (Rows.fnExactDecideEventSpec.post enc Try.prog Try.f10 false true false false) := by
  refine returnsInHanded_of_change (C := Try.checked) own started (by kernel_rfl) Try.func10
    (ChangeSpec.witness6 (enc := enc) (C := Try.checked) false ⟨#[], #[.slice none 0 0, .agg #[.int .i64 0, .int .i64 0, .string ⟨#[]⟩, .int .i64 0, .bool false, .bool false, .bool false]], []⟩ 8 (by kernel_rfl) (by kernel_rfl) (by kernel_rfl) (by kernel_rfl)) ?_
  intro W base args ds gs before hval0 hW hcnd _
  have hval : ∀ (j : Nat) t v, Try.f10.params[j]? = some t → args[j]? = some v → Value.okWide Try.prog W .any base t v := hval0
  have hW' := hW
  obtain ⟨p, q, hA0, hV, rfl, hfz, hnd⟩ := hW
  have hA : DataW.TrodAll enc Try.prog W 0 (fun _ => true) true Try.f10.params.toList args.toList ds p := hA0
  rw [Try.params10] at hA hval
  obtain ⟨v0, vs0, d0, ds0, p0, q0, hargs, rfl, rfl, h0, r0⟩ := trodAll_cons hA
  obtain ⟨v1, vs1, d1, ds1, p1, q1, rfl, rfl, rfl, h1, r1⟩ := trodAll_cons r0
  obtain ⟨rfl, rfl, rfl⟩ := trodAll_nil r1
  obtain rfl : args = #[v0, v1] := by cases args; simp_all
  obtain ⟨rfl, rfl⟩ := trodVars_none hV
  have k0 := h0
  have lt0 : ∀ x ∈ p0, x.block < W.heap.size := by obtain ⟨m, hm⟩ := k0; exact DataW.trod_lt m _ _ _ hm
  obtain ⟨A0, len0, cap0, e0⟩ := okWide_slice Try.underlying39 (hval 0 39 v0 rfl rfl)
  subst e0
  obtain ⟨fuel0, hf0⟩ := h0
  obtain ⟨L0, l0, w0, s0, m0⟩ := Clause.open_slice (show DataW.trod enc Try.prog W 0 (fun _ => true) true fuel0 39 [.slice A0 len0 cap0] = some (d0, p0) by simpa [Value.cells] using hf0)
  subst l0
  have k1 := h1
  have lt1 : ∀ x ∈ p1, x.block < W.heap.size := by obtain ⟨m, hm⟩ := k1; exact DataW.trod_lt m _ _ _ hm
  obtain ⟨a1, e1, s1⟩ := Event.open_val (hval 1 30 v1 rfl rfl) h1
  subst e1
  clear hA0 hval0
  refine (fnExactDecideEvent_walk W A0 cap0 L0 w0 s0 m0 a1 s1).mono fun e W' ⟨he, bel⟩ => ?_
  subst he
  exact ⟨_, rfl, _, _, _, [], _, [], hW', trodAll_mk1 (shut_bool Try.underlying4 _), (trodAll_cons_mk (Below.trod laidOut (by kernel_rfl) (of_decide_eq_true (by kernel_rfl)) k0 bel lt0) (trodAll_cons_mk (Below.trod laidOut (by kernel_rfl) (of_decide_eq_true (by kernel_rfl)) k1 bel lt1) trodAll_mk0)), rfl, bel.frame _, fun h => by cases h⟩

theorem fnExactDecideEvent_over : Rows.fnExactDecideEventRow.holds Try.pinned (OpenSpec.ofChange Rows.fnExactDecideEventSpec) :=
  OpenClaim.holds_of_wide 10 Try.f10 rfl rfl rfl rfl rfl rfl rfl ⟨rfl, rfl, rfl, rfl, rfl⟩ rfl rfl rfl rfl rfl (by kernel_rfl) Try.func10 (by kernel_rfl)
    (of_decide_eq_true (by kernel_rfl)) (by unfold Func.isWrapper; first | (rw [if_pos (by decide +kernel)]; kernel_rfl) | (rw [if_neg (by decide +kernel)]; exact ⟨rfl, rfl⟩))
    (fun os started H enc _ => fnExactDecideEvent_lifted os started H enc)

theorem fnExactDecideEvent_holds : Rows.FnExactDecideEventSaid := fnExactDecideEvent_over
#print axioms fnExactDecideEvent_holds
end Go.Proofs.Ythhfhdekhgkcaaa
