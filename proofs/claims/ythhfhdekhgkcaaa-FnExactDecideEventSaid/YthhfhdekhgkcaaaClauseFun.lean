/-
  The generic functions over lists of impl.Clause.
-/
import Derived.Test.YthhfhdekhgkcaaaClause
import Derived.Test.YthhfhdekhgkcaaaInts
namespace Go.Proofs.Ythhfhdekhgkcaaa
open Go.RowKit

set_option maxHeartbeats 1000000 in
set_option maxRecDepth 100000 in
theorem indexClause (f : FuncId) (fc : Array Value) (A : Option Addr) (cap : Nat) (L : List Clause) (p : Clause → Bool) (w : World) (hL : Clause.At w A L) (hf : Fun1 Try.prog f fc w Clause.val p L) (hlen : L.length ≤ 9223372036854775807) :
    Calls Try.prog 106 #[.slice A L.length cap, .func (.func f) #[] fc] w fun e w' => e = .returned (.int .i64 (idx p L)) ∧ Below w.heap.size w w' := by
  have HL := Lib.hid hL.at_
  have HF := Lib.hid hf.calls
  have hcf := hf.enter
  clear hL hf
  go_enter Try.func106, Try.ntmps106
  go_wp2
  go_loopw [8] (fun i wr => ∃ k : Nat, k ≤ L.length ∧ i = .int .i64 k ∧ Hid (∀ x ∈ L.take k, p x = false) ∧ Below w.heap.size w wr) (fun i _ => L.length - (intOf i).toNat)
  case atStart => exact ⟨0, Nat.zero_le _, rfl, (by simp [Hid]), Below.refl _ _⟩
  case round =>
    obtain ⟨k, hk, rfl, HP, hb⟩ := hrel
    by_cases hlt : k < L.length
    · obtain ⟨b, off, rfl, hlb, c0, c1, c2, c3, c4, c5, c6⟩ := HL.out k hlt
      replace c0 := (hb.cell hlb).trans c0
      replace c1 := (hb.cell hlb).trans c1
      replace c2 := (hb.cell hlb).trans c2
      replace c3 := (hb.cell hlb).trans c3
      replace c4 := (hb.cell hlb).trans c4
      replace c5 := (hb.cell hlb).trans c5
      replace c6 := (hb.cell hlb).trans c6
      have HC := Lib.hid (HF.out wr hb L[k] (List.getElem_mem hlt))
      cases hp : p L[k]
      · have HQ := Lib.hid hp
        rw [hp] at HC
        clear hp
        go_wp2_with fail
        refine HC.out.mono ?_
        rintro e w1 ⟨rfl, hb1⟩
        go_wp2
        go_roundw
        case rel => exact ⟨k + 1, by omega, by go_num, take_step p L hlt HP.out HQ.out, hb.trans (hb1.mono hb.size)⟩
        case measure => simp [intOf]; omega
      · have HQ := Lib.hid hp
        rw [hp] at HC
        clear hp
        go_wp2_with fail
        refine HC.out.mono ?_
        rintro e w1 ⟨rfl, hb1⟩
        go_wp2
        go_ret
        exact ⟨ret_i (idx_hit p L hlt HP.out HQ.out).symm, hb.trans (hb1.mono hb.size)⟩
    · go_wp2
      go_ret
      refine ⟨ret_i (idx_none p L ?_).symm, hb⟩
      have := HP.out
      rwa [List.take_of_length_le (by omega)] at this

set_option maxHeartbeats 400000 in
set_option maxRecDepth 100000 in
theorem containsClause (f : FuncId) (fc : Array Value) (A : Option Addr) (cap : Nat) (L : List Clause) (p : Clause → Bool) (w : World) (hL : Clause.At w A L) (hf : Fun1 Try.prog f fc w Clause.val p L) (hlen : L.length ≤ 9223372036854775807) :
    Calls Try.prog 104 #[.slice A L.length cap, .func (.func f) #[] fc] w fun e w' => e = .returned (.bool (L.any p)) ∧ Below w.heap.size w w' := by
  have HX := Lib.hid (indexClause f fc A cap L p w hL hf hlen)
  have HA := Lib.hid (idx_any p L)
  clear hL hf
  go_enter Try.func104, Try.ntmps104
  go_wp2_with fail
  refine HX.out.mono ?_
  rintro e w1 ⟨rfl, hb1⟩
  go_wp2
  go_ret
  exact ⟨ret_b HA.out, hb1⟩

set_option maxHeartbeats 400000 in
set_option maxRecDepth 100000 in
theorem allNotClause (x : Clause) (a : Addr) (f : FuncId) (fc : Array Value) (w : World) (p : Bool) (hc : w.cell? a = some (.func (.func f) #[] fc)) (hcf : ∀ args w, (callFunc f args).run Try.prog w = .ok (.enter f args) w)
    (h : ∀ W, Below w.heap.size w W → Calls Try.prog f (#[Clause.val x] ++ fc) W fun e w' => e = .returned (.bool p) ∧ Below W.heap.size W w') :
    Calls Try.prog 105 #[Clause.val x, .pointer (some a)] w fun e w' => e = .returned (.bool (!p)) ∧ Below w.heap.size w w' := by
  have B1 : Below w.heap.size w (w.alloc (.cells #[.string x.code, .int .i64 x.kind, .int .i64 x.peril, .int .i64 x.voluntary, .int .i64 x.reasonable, .int .i64 x.result, .string x.to] 26)) := (Below.refl _ _).alloc (Nat.le_refl _) _
  have H := Lib.hid (h _ B1)
  have hc1 := below_cell B1 hc
  have HB := Lib.hid B1
  clear h hc B1
  go_enter Try.func105, Try.ntmps105
  go_wp2_with fail
  refine H.out.mono ?_
  rintro e w' ⟨rfl, hb⟩
  have HB2 := Lib.hid (HB.out.trans (hb.mono HB.out.size))
  clear hb
  go_wp2
  go_ret
  exact ⟨rfl, HB2.out⟩

set_option maxHeartbeats 400000 in
set_option maxRecDepth 100000 in
theorem allClause (f : FuncId) (fc : Array Value) (A : Option Addr) (cap : Nat) (L : List Clause) (p : Clause → Bool) (w : World) (hL : Clause.At w A L) (hf : Fun1 Try.prog f fc w Clause.val p L) (hlen : L.length ≤ 9223372036854775807) :
    Calls Try.prog 73 #[.slice A L.length cap, .func (.func f) #[] fc] w fun e w' => e = .returned (.bool (L.all p)) ∧ Below w.heap.size w w' := by
  have B1 : Below w.heap.size w (w.alloc (.cells #[.func (.func f) #[] fc] 25)) := (Below.refl _ _).alloc (Nat.le_refl _) _
  have HX := Lib.hid (containsClause 105 #[.pointer (some ⟨w.heap.size, 0, none⟩)] A cap L (fun x => !p x) (w.alloc (.cells #[.func (.func f) #[] fc] 25)) (hL.below B1)
    ⟨run_callFunc_enter Try.func105 (by kernel_rfl) (by kernel_rfl), fun w' hb x hx => allNotClause x ⟨w.heap.size, 0, none⟩ f fc w' (p x) (below_cell hb (World.cell?_alloc_mark _ _ _ _ _)) hf.enter (fun W hW => hf.calls W ((B1.trans (hb.mono B1.size)).trans (hW.mono (B1.trans (hb.mono B1.size)).size)) x hx)⟩ hlen)
  have HA : Hid ((!L.any fun x => !p x) = L.all p) := by
    unfold Hid
    rw [List.all_eq_not_any_not]
  clear hL hf
  go_enter Try.func73, Try.ntmps73
  go_wp2_with fail
  refine HX.out.mono ?_
  rintro e w1 ⟨rfl, hb1⟩
  have hb2 := Lib.hid (B1.trans (hb1.mono B1.size))
  clear hb1 B1
  go_wp2
  go_ret
  exact ⟨ret_b HA.out, hb2.out⟩

set_option maxHeartbeats 400000 in
set_option maxRecDepth 100000 in
theorem indexOfClause (f : FuncId) (fc : Array Value) (A : Option Addr) (cap : Nat) (L : List Clause) (p : Clause → Bool) (w : World) (hL : Clause.At w A L) (hf : Fun1 Try.prog f fc w Clause.val p L) (hlen : L.length ≤ 9223372036854775807) :
    Calls Try.prog 76 #[.slice A L.length cap, .func (.func f) #[] fc] w fun e w' => e = .returned (.tuple #[.int .i64 (ixc (idx p L)).1, .int .i64 (ixc (idx p L)).2]) ∧ Below w.heap.size w w' := by
  have HX := Lib.hid (indexClause f fc A cap L p w hL hf hlen)
  clear hL hf
  go_enter Try.func76, Try.ntmps76
  go_wp2_with fail
  refine HX.out.mono ?_
  rintro e w1 ⟨rfl, hb1⟩
  go_wp2
  · have h : idx p L < 0 := by assumption
    go_ret2
    exact ⟨by rw [ixc, if_pos h]; rfl, hb1⟩
  · have h : 0 ≤ idx p L := by assumption
    go_ret2
    exact ⟨by rw [ixc, if_neg (by omega)]; rfl, hb1⟩

set_option maxHeartbeats 400000 in
set_option maxRecDepth 100000 in
theorem countClause (A : Option Addr) (n cap : Nat) (w : World) (_hlen : n ≤ 9223372036854775807) :
    Calls Try.prog 79 #[.slice A n cap] w fun e w' => e = .returned (.int .i64 n) ∧ w = w' := by
  go_enter Try.func79, Try.ntmps79
  go_wp2
  go_ret
  exact ⟨rfl, rfl⟩


end Go.Proofs.Ythhfhdekhgkcaaa
