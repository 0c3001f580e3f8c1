/-
  The contracts of the small functions on numbers, days and codes.
-/
import Derived.Test.YthhfhdekhgkcaaaRows
import Derived.Test.YthhfhdekhgkcaaaBase
namespace Go.Proofs.Ythhfhdekhgkcaaa
open Go.RowKit

set_option maxHeartbeats 400000 in
theorem l01In_any (n lo hi : Int) (w : World) :
    Calls Try.prog 61 #[.int .i64 n, .int .i64 lo, .int .i64 hi] w fun e w' => e = .returned (.bool (inB n lo hi)) ∧ w = w' := by
  go_enter Try.func61, Try.ntmps61
  go_wp2
  · have h : lo ≤ n := by assumption
    go_ret
    exact ⟨ret_b (inB_t h).symm, rfl⟩
  · have h : n < lo := by assumption
    go_ret
    exact ⟨ret_b (inB_f h).symm, rfl⟩

set_option maxHeartbeats 400000 in
theorem in_any (n lo hi : Int) (w : World) :
    Calls Try.prog 65 #[.int .i64 n, .int .i64 lo, .int .i64 hi] w fun e w' => e = .returned (.bool (inB n lo hi)) ∧ w = w' := by
  go_enter Try.func65, Try.ntmps65
  go_wp2
  · have h : lo ≤ n := by assumption
    go_ret
    exact ⟨ret_b (inB_t h).symm, rfl⟩
  · have h : n < lo := by assumption
    go_ret
    exact ⟨ret_b (inB_f h).symm, rfl⟩

set_option maxHeartbeats 400000 in
theorem l02Is_any (n : Int) (w : World) :
    Calls Try.prog 99 #[.int .i64 n] w fun e w' => e = .returned (.bool (isDay n)) ∧ w = w' := by
  go_enter Try.func99, Try.ntmps99
  go_wp2_with (go_at_call 61; refine (l01In_any _ _ _ _).mono ?_; rintro e w' ⟨rfl, rfl⟩)
  go_ret
  exact ⟨rfl, rfl⟩

set_option maxHeartbeats 400000 in
theorem daysIn_any (y m : Int) (hy : 0 ≤ y) (w : World) :
    Calls Try.prog 112 #[.int .i64 y, .int .i64 m] w fun e w' => e = .returned (.int .i64 (daysIn y m)) ∧ w = w' := by
  go_enter Try.func112, Try.ntmps112
  go_wp2
  all_goals
    go_ret
    refine ⟨ret_i ?_, rfl⟩
    simp_all [daysIn]

theorem all_take_succ (p : UInt8 → Bool) (s : ByteArray) (k : Nat) (h : k < s.size) : (s.data.toList.take (k + 1)).all p = ((s.data.toList.take k).all p && p s[k]) := by
  rw [List.take_succ_eq_append_getElem (by simpa using h), List.all_append]; simp; rfl
theorem all_of_take (p : UInt8 → Bool) (s : ByteArray) (k : Nat) (h : (s.data.toList.take k).all p = true) (hk : s.size ≤ k) : s.data.toList.all p = true := by
  rwa [List.take_of_length_le (by simpa using hk)] at h
theorem not_all (p : UInt8 → Bool) (s : ByteArray) (k : Nat) (h : k < s.size) (hp : p s[k] = false) : s.data.toList.all p = false := by
  rw [List.all_eq_false]; exact ⟨s[k], List.getElem_mem (l := s.data.toList) (n := k) (by simpa using h), by simp [hp]⟩

set_option maxHeartbeats 400000 in
theorem code_spec_any (s : ByteArray) (hs : s.size ≤ maxLen) (w : World) :
    Calls Try.prog 60 #[.string s] w fun e w' => e = .returned (.bool (isCode s)) ∧ w = w' := by
  unfold maxLen at hs
  go_enter Try.func60, Try.ntmps60
  go_wp2
  go_loop [3] (fun i => ∃ k : Nat, k ≤ s.size ∧ i = .int .i64 k ∧ (s.data.toList.take k).all (letter 97 122) = true) (fun i => s.size - (intOf i).toNat)
  case atStart => exact ⟨0, Nat.zero_le _, rfl, by simp⟩
  case round =>
    obtain ⟨k, hk, rfl, ha⟩ := hrel
    have HA := Lib.hid ha
    clear ha
    by_cases hlt : k < s.size
    · go_wp2
      all_goals first
        | (go_round
           case rel => exact ⟨k + 1, by omega, by go_num, by rw [all_take_succ _ _ _ hlt, HA.out]; simp [letter]; omega⟩
           case measure => simp [intOf]; omega)
        | (go_ret
           refine ⟨ret_b ?_, rfl⟩
           rw [isCode, spelledB, not_all _ s k hlt (by simp [letter]; omega)]; rfl)
    · go_wp2_with (go_at_call 61; refine (l01In_any _ _ _ _).mono ?_; rintro e w' ⟨rfl, rfl⟩)
      go_ret
      refine ⟨ret_b ?_, rfl⟩
      simp [isCode, spelledB, all_of_take _ _ _ HA.out (by omega)]

set_option maxHeartbeats 400000 in
theorem spelled_any (s : ByteArray) (least most : Int) (lo hi : Int) (hs : s.size ≤ maxLen) (w : World) :
    Calls Try.prog 98 #[.string s, .int .i64 least, .int .i64 most, .int .u8 lo, .int .u8 hi] w fun e w' => e = .returned (.bool (spelledB s least most lo hi)) ∧ w = w' := by
  unfold maxLen at hs
  go_enter Try.func98, Try.ntmps98
  go_wp2
  go_loop [14] (fun i => ∃ k : Nat, k ≤ s.size ∧ i = .int .i64 k ∧ (s.data.toList.take k).all (letter lo hi) = true) (fun i => s.size - (intOf i).toNat)
  case atStart => exact ⟨0, Nat.zero_le _, rfl, by simp⟩
  case round =>
    obtain ⟨k, hk, rfl, ha⟩ := hrel
    have HA := Lib.hid ha
    clear ha
    by_cases hlt : k < s.size
    · go_wp2
      all_goals first
        | (go_round
           case rel => exact ⟨k + 1, by omega, by go_num, by rw [all_take_succ _ _ _ hlt, HA.out]; simp [letter]; omega⟩
           case measure => simp [intOf]; omega)
        | (go_ret
           refine ⟨ret_b ?_, rfl⟩
           rw [spelledB, not_all _ s k hlt (by simp [letter]; omega)]; rfl)
    · go_wp2
      all_goals
        go_ret
        refine ⟨ret_b ?_, rfl⟩
        rw [spelledB, all_of_take _ _ _ HA.out (by omega)]
        first | rw [inB_t (by assumption)]; rfl | rw [inB_f (by assumption)]; rfl

set_option maxHeartbeats 400000 in
theorem code_any (s : ByteArray) (hs : s.size ≤ maxLen) (w : World) :
    Calls Try.prog 64 #[.string s] w fun e w' => e = .returned (.bool (isCode s)) ∧ w = w' := by
  go_enter Try.func64, Try.ntmps64
  go_wp2_with (go_at_call 98; refine (spelled_any _ _ _ _ _ hs _).mono ?_; rintro e w' ⟨rfl, rfl⟩)
  go_ret
  exact ⟨rfl, rfl⟩

set_option maxHeartbeats 400000 in
theorem dayOf_any (y : Int) (m : Nat) (d : Int) (hy : 1969 ≤ y) (hy2 : y ≤ 2070) (hm : m ≤ 12) (hd : -100000 ≤ d) (hd2 : d ≤ 100000) (w : World) :
    Calls Try.prog 111 #[.agg #[.int .i64 y, .int .i64 ((m : Int) + 1), .int .i64 d]] w fun e w' => e = .returned (.int .i64 (dayNum y m d)) ∧ Below w.heap.size w w' := by
  go_enter Try.func111, Try.ntmps111
  go_wp2
  go_loop [4, 5] (fun n i => ∃ k : Nat, k ≤ m ∧ i = .int .i64 ((k : Int) + 1) ∧ n = .int .i64 (365 * (y - 1970) + (y - 1970 + 1) / 4 + d - 1 + cum y k)) (fun _ i => m + 1 - (intOf i).toNat)
  case atStart => exact ⟨0, Nat.zero_le _, rfl, by simp [cum]⟩
  case round =>
    obtain ⟨k, hk, rfl, rfl⟩ := hrel
    have h1 := cum_bd y k
    have h2 := daysIn_bd y (k + 1)
    by_cases hlt : k < m
    · go_wp2_with (go_at_call 112; refine (daysIn_any _ _ (by omega) _).mono ?_; rintro e w' ⟨rfl, rfl⟩)
      go_round
      case rel => exact ⟨k + 1, by omega, by go_num, by simp only [cum]; go_num⟩
      case measure => simp [intOf]; omega
    · obtain rfl : k = m := by omega
      go_wp2
      go_ret
      exact ⟨rfl, (Below.refl _ _).alloc (Nat.le_refl _) _⟩

theorem dayOf_int (y M d : Int) (hy : 1969 ≤ y) (hy2 : y ≤ 2070) (h1 : 1 ≤ M) (h2 : M ≤ 13) (hd : -100000 ≤ d) (hd2 : d ≤ 100000) (w : World) :
    Calls Try.prog 111 #[.agg #[.int .i64 y, .int .i64 M, .int .i64 d]] w fun e w' => e = .returned (.int .i64 (dayNum y (M - 1).toNat d)) ∧ Below w.heap.size w w' := by
  obtain ⟨m, rfl⟩ : ∃ m : Nat, M = (m : Int) + 1 := ⟨(M - 1).toNat, by omega⟩
  rw [show ((m : Int) + 1 - 1).toNat = m from by omega]
  exact dayOf_any y m d hy hy2 (by omega) hd hd2 w

set_option maxHeartbeats 400000 in
theorem isDay_any (n : Int) (w : World) :
    Calls Try.prog 101 #[.int .i64 n] w fun e w' => e = .returned (.bool (isDay n)) ∧ Below w.heap.size w w' := by
  go_enter Try.func101, Try.ntmps101
  go_wp2_with (first | (go_at_call 111; refine (dayOf_int _ _ _ (by decide) (by decide) (by decide) (by decide) (by decide) (by decide) _).mono ?_; rintro e w1 ⟨rfl, hb⟩) | (go_at_call 65; refine (in_any _ _ _ _).mono ?_; rintro e w' ⟨rfl, rfl⟩))
  go_ret
  exact ⟨rfl, hb⟩
end Go.Proofs.Ythhfhdekhgkcaaa
