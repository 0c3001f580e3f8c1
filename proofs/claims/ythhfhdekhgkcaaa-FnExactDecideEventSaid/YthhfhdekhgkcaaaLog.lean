/-
  IsLog on both sides.
-/
import Derived.Test.YthhfhdekhgkcaaaEventFn
namespace Go.Proofs.Ythhfhdekhgkcaaa
open Go.RowKit

def dayLe (a b : Event) : Bool := decide (a.day ≤ b.day)
def isLog (L : List Event) : Bool := linked Event.okB dayLe none L && decide (L.length ≤ 15)
theorem log_len {L : List Event} (h : isLog L = true) : L.length ≤ 15 := by simp only [isLog, Bool.and_eq_true, decide_eq_true_eq] at h; exact h.2
theorem log_ok {L : List Event} (h : isLog L = true) : ∀ e ∈ L, e.okB = true := by simp only [isLog, Bool.and_eq_true] at h; exact linked_all h.1

set_option maxHeartbeats 2000000 in
set_option maxRecDepth 100000 in
theorem isLog_spec (A : Option Addr) (cap : Nat) (L : List Event) (w : World) (hL : Event.At w A L) (hs : ∀ s ∈ L, s.tiny) (hlen : L.length ≤ 9223372036854775807) :
    Calls Try.prog 93 #[.slice A L.length cap] w fun e w' => e = .returned (.bool (isLog L)) ∧ Below w.heap.size w w' := by
  have HL := Lib.hid hL.at_
  have HS := Lib.hid hs
  clear hL hs
  go_enter Try.func93, Try.ntmps93
  go_wp2
  go_loopw [3] (fun i wr => ∃ k : Nat, k ≤ L.length ∧ i = .int .i64 k ∧ Hid (linked Event.okB dayLe none L = linked Event.okB dayLe (prevAt L k) (L.drop k)) ∧ Below w.heap.size w wr) (fun i _ => L.length - (intOf i).toNat)
  case atStart => exact ⟨0, Nat.zero_le _, rfl, by simp [Hid, prevAt], Below.refl _ _⟩
  case round =>
    obtain ⟨k, hk, rfl, HE, hb⟩ := hrel
    by_cases hlt : k < L.length
    · obtain ⟨b, off, rfl, hlb, c0, c1, c2, c3, c4, c5, c6⟩ := HL.out k hlt
      replace c0 := (hb.cell hlb).trans c0
      replace c1 := (hb.cell hlb).trans c1
      replace c2 := (hb.cell hlb).trans c2
      replace c3 := (hb.cell hlb).trans c3
      replace c4 := (hb.cell hlb).trans c4
      replace c5 := (hb.cell hlb).trans c5
      replace c6 := (hb.cell hlb).trans c6
      have hp := HS.out _ (List.getElem_mem hlt)
      have e0 : k = 0 ∨ ∃ j, k = j + 1 := by
        cases k with
        | zero => exact .inl rfl
        | succ j => exact .inr ⟨j, rfl⟩
      have HB0 : Hid (Below wr.heap.size wr wr) := Below.refl _ _
      go_wp2
      have f0 := fun x : BW wr => x.cell c0
      have f1 := fun x : BW wr => x.cell c1
      have f2 := fun x : BW wr => x.cell c2
      have f3 := fun x : BW wr => x.cell c3
      have f4 := fun x : BW wr => x.cell c4
      have f5 := fun x : BW wr => x.cell c5
      have f6 := fun x : BW wr => x.cell c6
      cases h1 : L[k].okB
      · refine wp_region_bw (by kernel_rfl) (by kernel_rfl) ?_
        repeat (go_big_quiet_step ((go_at_call 66; exact bw_of _ (calls_b h1 (isEvent_spec _ hp _)))))
        refine wpQuiet_nil ?_
        intro wq hx
        have hq := bw_out hx
        clear hx
        go_wp2
        go_ret
        refine ⟨ret_b ?_, hb.trans ((HB0.out.trans (hq.mono HB0.out.size)).mono hb.size)⟩
        rw [isLog, HE.out, lk_false hlt h1]; rfl
      · rcases e0 with rfl | ⟨j, rfl⟩
        · simp only [Nat.zero_mul, Nat.add_zero] at f0 f1 f2 f3 f4 f5 f6
          refine wp_region_bw (by kernel_rfl) (by kernel_rfl) ?_
          repeat (go_big_quiet_step ((go_at_call 66; exact bw_of _ (calls_b h1 (isEvent_spec _ hp _)))))
          refine wpQuiet_nil ?_
          intro wq hx
          have hq := bw_out hx
          clear hx
          go_wp2
          go_roundw
          case rel => exact ⟨1, by omega, by go_num, HE.out.trans (lk_zero hlt h1), hb.trans ((HB0.out.trans (hq.mono HB0.out.size)).mono hb.size)⟩
          case measure => simp [intOf]; omega
        · obtain ⟨b2, off2, he, _, p0, _, _, _, _, _, _⟩ := HL.out j (by omega)
          obtain ⟨rfl, rfl⟩ : b = b2 ∧ off = off2 := by injection he with he; injection he with he1 he2; exact ⟨he1, he2⟩
          clear he
          have p3 := fun x : BW wr => x.cell (below_cell HB0.out ((hb.cell hlb).trans p0))
          have hj0 : decide ((0 : Int) < ((j + 1 : Nat) : Int)) = true := by simp only [decide_eq_true_eq]; omega
          cases h6 : decide (L[j + 1].day < L[j].day)
          · have h7 : dayLe L[j] L[j + 1] = true := by simp only [decide_eq_false_iff_not] at h6; simp [dayLe]; omega
            have H7 := Lib.hid h7
            clear h7
            refine wp_region_bw (by kernel_rfl) (by kernel_rfl) ?_
            repeat (go_big_quiet_step ((go_at_call 66; exact bw_of _ (calls_b h1 (isEvent_spec _ hp _)))))
            refine wpQuiet_nil ?_
            intro wq hx
            have hq := bw_out hx
            clear hx
            go_wp2
            go_roundw
            case rel => exact ⟨j + 2, by omega, by go_num, HE.out.trans (lk_succ hlt h1 H7.out), hb.trans ((HB0.out.trans (hq.mono HB0.out.size)).mono hb.size)⟩
            case measure => simp [intOf]; omega
          · have h7 : dayLe L[j] L[j + 1] = false := by simp only [decide_eq_true_eq] at h6; simp [dayLe]; omega
            have H7 := Lib.hid h7
            clear h7
            refine wp_region_bw (by kernel_rfl) (by kernel_rfl) ?_
            repeat (go_big_quiet_step ((go_at_call 66; exact bw_of _ (calls_b h1 (isEvent_spec _ hp _)))))
            refine wpQuiet_nil ?_
            intro wq hx
            have hq := bw_out hx
            clear hx
            go_wp2
            go_ret
            refine ⟨ret_b ?_, hb.trans ((HB0.out.trans (hq.mono HB0.out.size)).mono hb.size)⟩
            rw [isLog, HE.out, lk_prev hlt h1 H7.out]; rfl
    · have HN : Hid (linked Event.okB dayLe none L = true) := HE.out.trans (lk_end (by omega))
      go_wp2
      go_ret
      refine ⟨ret_b ?_, hb⟩
      rw [isLog, HN.out]
      simp only [Bool.true_and, decide_eq_decide]
      omega

set_option maxHeartbeats 2000000 in
set_option maxRecDepth 100000 in
theorem isLog_impl (A : Option Addr) (cap : Nat) (L : List Event) (w : World) (hL : Event.At w A L) (hs : ∀ s ∈ L, s.tiny) (hlen : L.length ≤ 9223372036854775807) :
    Calls Try.prog 94 #[.slice A L.length cap] w fun e w' => e = .returned (.bool (isLog L)) ∧ Below w.heap.size w w' := by
  have HL := Lib.hid hL.at_
  have HS := Lib.hid hs
  clear hL hs
  go_enter Try.func94, Try.ntmps94
  go_wp2
  go_loopw [7] (fun i wr => ∃ k : Nat, k ≤ L.length ∧ i = .int .i64 k ∧ Hid (linked Event.okB dayLe none L = linked Event.okB dayLe (prevAt L k) (L.drop k)) ∧ Below w.heap.size w wr) (fun i _ => L.length - (intOf i).toNat)
  case atStart => exact ⟨0, Nat.zero_le _, rfl, by simp [Hid, prevAt], Below.refl _ _⟩
  case round =>
    obtain ⟨k, hk, rfl, HE, hb⟩ := hrel
    by_cases hlt : k < L.length
    · obtain ⟨b, off, rfl, hlb, c0, c1, c2, c3, c4, c5, c6⟩ := HL.out k hlt
      replace c0 := (hb.cell hlb).trans c0
      replace c1 := (hb.cell hlb).trans c1
      replace c2 := (hb.cell hlb).trans c2
      replace c3 := (hb.cell hlb).trans c3
      replace c4 := (hb.cell hlb).trans c4
      replace c5 := (hb.cell hlb).trans c5
      replace c6 := (hb.cell hlb).trans c6
      have hp := HS.out _ (List.getElem_mem hlt)
      have e0 : k = 0 ∨ ∃ j, k = j + 1 := by
        cases k with
        | zero => exact .inl rfl
        | succ j => exact .inr ⟨j, rfl⟩
      have HB0 : Hid (Below wr.heap.size wr (wr.alloc (.cells #[.int .i64 L[k].day, .int .i64 L[k].kind, .string L[k].interest, .int .i64 L[k].amount, .bool L[k].peril, .bool L[k].voluntary, .bool L[k].reasonable] 34))) := (Below.refl _ _).alloc (Nat.le_refl _) _
      go_wp2
      have f0 := new_cell wr #[.int .i64 L[k].day, .int .i64 L[k].kind, .string L[k].interest, .int .i64 L[k].amount, .bool L[k].peril, .bool L[k].voluntary, .bool L[k].reasonable] 34 0 (.int .i64 L[k].day) rfl
      have f1 := new_cell wr #[.int .i64 L[k].day, .int .i64 L[k].kind, .string L[k].interest, .int .i64 L[k].amount, .bool L[k].peril, .bool L[k].voluntary, .bool L[k].reasonable] 34 1 (.int .i64 L[k].kind) rfl
      have f2 := new_cell wr #[.int .i64 L[k].day, .int .i64 L[k].kind, .string L[k].interest, .int .i64 L[k].amount, .bool L[k].peril, .bool L[k].voluntary, .bool L[k].reasonable] 34 2 (.string L[k].interest) rfl
      have f3 := new_cell wr #[.int .i64 L[k].day, .int .i64 L[k].kind, .string L[k].interest, .int .i64 L[k].amount, .bool L[k].peril, .bool L[k].voluntary, .bool L[k].reasonable] 34 3 (.int .i64 L[k].amount) rfl
      have f4 := new_cell wr #[.int .i64 L[k].day, .int .i64 L[k].kind, .string L[k].interest, .int .i64 L[k].amount, .bool L[k].peril, .bool L[k].voluntary, .bool L[k].reasonable] 34 4 (.bool L[k].peril) rfl
      have f5 := new_cell wr #[.int .i64 L[k].day, .int .i64 L[k].kind, .string L[k].interest, .int .i64 L[k].amount, .bool L[k].peril, .bool L[k].voluntary, .bool L[k].reasonable] 34 5 (.bool L[k].voluntary) rfl
      have f6 := new_cell wr #[.int .i64 L[k].day, .int .i64 L[k].kind, .string L[k].interest, .int .i64 L[k].amount, .bool L[k].peril, .bool L[k].voluntary, .bool L[k].reasonable] 34 6 (.bool L[k].reasonable) rfl
      cases h1 : L[k].okB
      · refine wp_region_bw (by kernel_rfl) (by kernel_rfl) ?_
        repeat (go_big_quiet_step ((go_at_call 68; exact bw_of _ (calls_b h1 (isEvent_impl _ hp _)))))
        refine wpQuiet_nil ?_
        intro wq hx
        have hq := bw_out hx
        clear hx
        go_wp2
        go_ret
        refine ⟨ret_b ?_, hb.trans ((HB0.out.trans (hq.mono HB0.out.size)).mono hb.size)⟩
        rw [isLog, HE.out, lk_false hlt h1]; rfl
      · rcases e0 with rfl | ⟨j, rfl⟩
        · refine wp_region_bw (by kernel_rfl) (by kernel_rfl) ?_
          repeat (go_big_quiet_step ((go_at_call 68; exact bw_of _ (calls_b h1 (isEvent_impl _ hp _)))))
          refine wpQuiet_nil ?_
          intro wq hx
          have hq := bw_out hx
          clear hx
          go_wp2
          go_roundw
          case rel => exact ⟨1, by omega, by go_num, HE.out.trans (lk_zero hlt h1), hb.trans ((HB0.out.trans (hq.mono HB0.out.size)).mono hb.size)⟩
          case measure => simp [intOf]; omega
        · obtain ⟨b2, off2, he, _, p0, _, _, _, _, _, _⟩ := HL.out j (by omega)
          obtain ⟨rfl, rfl⟩ : b = b2 ∧ off = off2 := by injection he with he; injection he with he1 he2; exact ⟨he1, he2⟩
          clear he
          have p3 := fun x : BW (wr.alloc (.cells #[.int .i64 L[j + 1].day, .int .i64 L[j + 1].kind, .string L[j + 1].interest, .int .i64 L[j + 1].amount, .bool L[j + 1].peril, .bool L[j + 1].voluntary, .bool L[j + 1].reasonable] 34)) => x.cell (below_cell HB0.out ((hb.cell hlb).trans p0))
          have hj0 : decide ((0 : Int) < ((j + 1 : Nat) : Int)) = true := by simp only [decide_eq_true_eq]; omega
          cases h6 : decide (L[j + 1].day < L[j].day)
          · have h7 : dayLe L[j] L[j + 1] = true := by simp only [decide_eq_false_iff_not] at h6; simp [dayLe]; omega
            have H7 := Lib.hid h7
            clear h7
            refine wp_region_bw (by kernel_rfl) (by kernel_rfl) ?_
            repeat (go_big_quiet_step ((go_at_call 68; exact bw_of _ (calls_b h1 (isEvent_impl _ hp _)))))
            refine wpQuiet_nil ?_
            intro wq hx
            have hq := bw_out hx
            clear hx
            go_wp2
            go_roundw
            case rel => exact ⟨j + 2, by omega, by go_num, HE.out.trans (lk_succ hlt h1 H7.out), hb.trans ((HB0.out.trans (hq.mono HB0.out.size)).mono hb.size)⟩
            case measure => simp [intOf]; omega
          · have h7 : dayLe L[j] L[j + 1] = false := by simp only [decide_eq_true_eq] at h6; simp [dayLe]; omega
            have H7 := Lib.hid h7
            clear h7
            refine wp_region_bw (by kernel_rfl) (by kernel_rfl) ?_
            repeat (go_big_quiet_step ((go_at_call 68; exact bw_of _ (calls_b h1 (isEvent_impl _ hp _)))))
            refine wpQuiet_nil ?_
            intro wq hx
            have hq := bw_out hx
            clear hx
            go_wp2
            go_ret
            refine ⟨ret_b ?_, hb.trans ((HB0.out.trans (hq.mono HB0.out.size)).mono hb.size)⟩
            rw [isLog, HE.out, lk_prev hlt h1 H7.out]; rfl
    · have HN : Hid (linked Event.okB dayLe none L = true) := HE.out.trans (lk_end (by omega))
      go_wp2
      go_ret
      refine ⟨ret_b ?_, hb⟩
      rw [isLog, HN.out]
      simp only [Bool.true_and, decide_eq_decide]
      omega

end Go.Proofs.Ythhfhdekhgkcaaa
