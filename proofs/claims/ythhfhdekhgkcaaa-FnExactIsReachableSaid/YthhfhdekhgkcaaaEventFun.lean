/-
  The generic functions over lists of impl.Event.
-/
import Derived.Test.YthhfhdekhgkcaaaEvent
import Derived.Test.YthhfhdekhgkcaaaInts
namespace Go.Proofs.Ythhfhdekhgkcaaa
open Go.RowKit

set_option maxHeartbeats 1000000 in
set_option maxRecDepth 100000 in
theorem indexEvent (f : FuncId) (fc : Array Value) (A : Option Addr) (cap : Nat) (L : List Event) (p : Event → Bool) (w : World) (hL : Event.At w A L) (hf : Fun1 Try.prog f fc w Event.val p L) (hlen : L.length ≤ 9223372036854775807) :
    Calls Try.prog 109 #[.slice A L.length cap, .func (.func f) #[] fc] w fun e w' => e = .returned (.int .i64 (idx p L)) ∧ Below w.heap.size w w' := by
  have HL := Lib.hid hL.at_
  have HF := Lib.hid hf.calls
  have hcf := hf.enter
  clear hL hf
  go_enter Try.func109, Try.ntmps109
  go_wp2
  go_loopw [8] (fun i wr => ∃ k : Nat, k ≤ L.length ∧ i = .int .i64 k ∧ Hid (∀ x ∈ L.take k, p x = false) ∧ Below w.heap.size w wr) (fun i _ => L.length - (intOf i).toNat)
  case atStart => exact ⟨0, Nat.zero_le _, rfl, (by simp [Hid]), Below.refl _ _⟩
  case round =>
    obtain ⟨k, hk, rfl, HP, hb⟩ := hrel
    by_cases hlt : k < L.length
    · obtain ⟨b, off, rfl, hlb, c0, c1, c2, c3, c4, c5, c6⟩ := HL.out k hlt
      replace c0 := (hb.cell hlb).trans c0
      replace c1 := (hb.cell hlb).trans c1
      replace c2 := (hb.cell hlb).trans c2
      replace c3 := (hb.cell hlb).trans c3
      replace c4 := (hb.cell hlb).trans c4
      replace c5 := (hb.cell hlb).trans c5
      replace c6 := (hb.cell hlb).trans c6
      have HC := Lib.hid (HF.out wr hb L[k] (List.getElem_mem hlt))
      cases hp : p L[k]
      · have HQ := Lib.hid hp
        rw [hp] at HC
        clear hp
        go_wp2_with fail
        refine HC.out.mono ?_
        rintro e w1 ⟨rfl, hb1⟩
        go_wp2
        go_roundw
        case rel => exact ⟨k + 1, by omega, by go_num, take_step p L hlt HP.out HQ.out, hb.trans (hb1.mono hb.size)⟩
        case measure => simp [intOf]; omega
      · have HQ := Lib.hid hp
        rw [hp] at HC
        clear hp
        go_wp2_with fail
        refine HC.out.mono ?_
        rintro e w1 ⟨rfl, hb1⟩
        go_wp2
        go_ret
        exact ⟨ret_i (idx_hit p L hlt HP.out HQ.out).symm, hb.trans (hb1.mono hb.size)⟩
    · go_wp2
      go_ret
      refine ⟨ret_i (idx_none p L ?_).symm, hb⟩
      have := HP.out
      rwa [List.take_of_length_le (by omega)] at this

set_option maxHeartbeats 400000 in
set_option maxRecDepth 100000 in
theorem containsEvent (f : FuncId) (fc : Array Value) (A : Option Addr) (cap : Nat) (L : List Event) (p : Event → Bool) (w : World) (hL : Event.At w A L) (hf : Fun1 Try.prog f fc w Event.val p L) (hlen : L.length ≤ 9223372036854775807) :
    Calls Try.prog 83 #[.slice A L.length cap, .func (.func f) #[] fc] w fun e w' => e = .returned (.bool (L.any p)) ∧ Below w.heap.size w w' := by
  have HX := Lib.hid (indexEvent f fc A cap L p w hL hf hlen)
  have HA := Lib.hid (idx_any p L)
  clear hL hf
  go_enter Try.func83, Try.ntmps83
  go_wp2_with fail
  refine HX.out.mono ?_
  rintro e w1 ⟨rfl, hb1⟩
  go_wp2
  go_ret
  exact ⟨ret_b HA.out, hb1⟩





end Go.Proofs.Ythhfhdekhgkcaaa
