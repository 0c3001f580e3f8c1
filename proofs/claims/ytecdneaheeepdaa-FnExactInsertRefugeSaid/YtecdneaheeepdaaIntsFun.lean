/-
  The generic functions over lists of int64.
-/
import Derived.Test.YtecdneaheeepdaaInts

namespace Go.Proofs.Ytecdneaheeepdaa
open Go.RowKit

set_option maxHeartbeats 1000000 in
set_option maxRecDepth 100000 in
theorem indexInts (f : FuncId) (fc : Array Value) (A : Option Addr) (cap : Nat) (L : List Int) (p : Int → Bool) (w : World) (hL : Ints.At w A L) (hf : Fun1 Try.prog f fc w (Value.int .i64) p L) (hlen : L.length ≤ 9223372036854775807) :
    Calls Try.prog 71 #[.slice A L.length cap, .func (.func f) #[] fc] w fun e w' => e = .returned (.int .i64 (idx p L)) ∧ Below w.heap.size w w' := by
  have HL := Lib.hid hL.at_
  have HF := Lib.hid hf.calls
  have hcf := hf.enter
  clear hL hf
  go_enter Try.func71, Try.ntmps71
  go_wp2
  go_loopw [8] (fun i wr => ∃ k : Nat, k ≤ L.length ∧ i = .int .i64 k ∧ Hid (∀ x ∈ L.take k, p x = false) ∧ Below w.heap.size w wr) (fun i _ => L.length - (intOf i).toNat)
  case atStart => exact ⟨0, Nat.zero_le _, rfl, (by simp [Hid]), Below.refl _ _⟩
  case round =>
    obtain ⟨k, hk, rfl, HP, hb⟩ := hrel
    by_cases hlt : k < L.length
    · obtain ⟨b, off, rfl, hlb, c0⟩ := HL.out k hlt
      replace c0 := (hb.cell hlb).trans c0
      have HC := Lib.hid (HF.out wr hb L[k] (List.getElem_mem hlt))
      cases hp : p L[k]
      · have HQ := Lib.hid hp
        rw [hp] at HC
        clear hp
        go_wp2_with fail
        refine HC.out.mono ?_
        rintro e w1 ⟨rfl, hb1⟩
        go_wp2
        go_roundw
        case rel => exact ⟨k + 1, by omega, by go_num, take_step p L hlt HP.out HQ.out, hb.trans (hb1.mono hb.size)⟩
        case measure => simp [intOf]; omega
      · have HQ := Lib.hid hp
        rw [hp] at HC
        clear hp
        go_wp2_with fail
        refine HC.out.mono ?_
        rintro e w1 ⟨rfl, hb1⟩
        go_wp2
        go_ret
        exact ⟨ret_i (idx_hit p L hlt HP.out HQ.out).symm, hb.trans (hb1.mono hb.size)⟩
    · go_wp2
      go_ret
      refine ⟨ret_i (idx_none p L ?_).symm, hb⟩
      have := HP.out
      rwa [List.take_of_length_le (by omega)] at this

set_option maxHeartbeats 400000 in
set_option maxRecDepth 100000 in
theorem containsInts (f : FuncId) (fc : Array Value) (A : Option Addr) (cap : Nat) (L : List Int) (p : Int → Bool) (w : World) (hL : Ints.At w A L) (hf : Fun1 Try.prog f fc w (Value.int .i64) p L) (hlen : L.length ≤ 9223372036854775807) :
    Calls Try.prog 69 #[.slice A L.length cap, .func (.func f) #[] fc] w fun e w' => e = .returned (.bool (L.any p)) ∧ Below w.heap.size w w' := by
  have HX := Lib.hid (indexInts f fc A cap L p w hL hf hlen)
  have HA := Lib.hid (idx_any p L)
  clear hL hf
  go_enter Try.func69, Try.ntmps69
  go_wp2_with fail
  refine HX.out.mono ?_
  rintro e w1 ⟨rfl, hb1⟩
  go_wp2
  go_ret
  exact ⟨ret_b HA.out, hb1⟩

set_option maxHeartbeats 400000 in
set_option maxRecDepth 100000 in
theorem allNotInts (x : Int) (a : Addr) (f : FuncId) (fc : Array Value) (w : World) (p : Bool) (hc : w.cell? a = some (.func (.func f) #[] fc)) (hcf : ∀ args w, (callFunc f args).run Try.prog w = .ok (.enter f args) w)
    (h : ∀ W, Below w.heap.size w W → Calls Try.prog f (#[(Value.int .i64) x] ++ fc) W fun e w' => e = .returned (.bool p) ∧ Below W.heap.size W w') :
    Calls Try.prog 70 #[(Value.int .i64) x, .pointer (some a)] w fun e w' => e = .returned (.bool (!p)) ∧ Below w.heap.size w w' := by
  have H := Lib.hid (h w (Below.refl _ _))
  clear h
  go_enter Try.func70, Try.ntmps70
  go_wp2_with fail
  refine H.out.mono ?_
  rintro e w' ⟨rfl, hb⟩
  go_wp2
  go_ret
  exact ⟨rfl, hb⟩

set_option maxHeartbeats 400000 in
set_option maxRecDepth 100000 in
theorem allInts (f : FuncId) (fc : Array Value) (A : Option Addr) (cap : Nat) (L : List Int) (p : Int → Bool) (w : World) (hL : Ints.At w A L) (hf : Fun1 Try.prog f fc w (Value.int .i64) p L) (hlen : L.length ≤ 9223372036854775807) :
    Calls Try.prog 64 #[.slice A L.length cap, .func (.func f) #[] fc] w fun e w' => e = .returned (.bool (L.all p)) ∧ Below w.heap.size w w' := by
  have B1 : Below w.heap.size w (w.alloc (.cells #[.func (.func f) #[] fc] 56)) := (Below.refl _ _).alloc (Nat.le_refl _) _
  have HX := Lib.hid (containsInts 70 #[.pointer (some ⟨w.heap.size, 0, none⟩)] A cap L (fun x => !p x) (w.alloc (.cells #[.func (.func f) #[] fc] 56)) (hL.below B1)
    ⟨run_callFunc_enter Try.func70 (by kernel_rfl) (by kernel_rfl), fun w' hb x hx => allNotInts x ⟨w.heap.size, 0, none⟩ f fc w' (p x) (below_cell hb (World.cell?_alloc_mark _ _ _ _ _)) hf.enter (fun W hW => hf.calls W ((B1.trans (hb.mono B1.size)).trans (hW.mono (B1.trans (hb.mono B1.size)).size)) x hx)⟩ hlen)
  have HA : Hid ((!L.any fun x => !p x) = L.all p) := by
    unfold Hid
    rw [List.all_eq_not_any_not]
  clear hL hf
  go_enter Try.func64, Try.ntmps64
  go_wp2_with fail
  refine HX.out.mono ?_
  rintro e w1 ⟨rfl, hb1⟩
  have hb2 := Lib.hid (B1.trans (hb1.mono B1.size))
  clear hb1 B1
  go_wp2
  go_ret
  exact ⟨ret_b HA.out, hb2.out⟩


set_option maxHeartbeats 400000 in
set_option maxRecDepth 100000 in
theorem countInts (A : Option Addr) (n cap : Nat) (w : World) (_hlen : n ≤ 9223372036854775807) :
    Calls Try.prog 53 #[.slice A n cap] w fun e w' => e = .returned (.int .i64 n) ∧ w = w' := by
  go_enter Try.func53, Try.ntmps53
  go_wp2
  go_ret
  exact ⟨rfl, rfl⟩


end Go.Proofs.Ytecdneaheeepdaa
