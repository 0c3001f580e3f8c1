/-
  The search for an interest, and DoesFit, on both sides.
-/
import Derived.Test.YtfbafdnjjfmhjaaManifest
import Derived.Test.YtfbafdnjjfmhjaaInterestFun
import Derived.Test.YtfbafdnjjfmhjaaEventFun
namespace Go.Proofs.Ytfbafdnjjfmhjaa
open Go.RowKit

def hasCodeI (s : ByteArray) (x : Interest) : Bool := sEq x.code s
def findI (L : List Interest) (s : ByteArray) : Int := idx (hasCodeI s) L

set_option maxHeartbeats 1000000 in
set_option maxRecDepth 100000 in
theorem findI_spec (A : Option Addr) (cap : Nat) (L : List Interest) (s : ByteArray) (w : World) (hL : Interest.At w A L) (hlen : L.length ≤ 9223372036854775807) :
    Calls Try.prog 104 #[.slice A L.length cap, .string s] w fun e w' => e = .returned (.int .i64 (findI L s)) ∧ w = w' := by
  have HL := Lib.hid hL.at_
  clear hL
  go_enter Try.func104, Try.ntmps104
  go_wp2
  go_loopw [5] (fun i wr => ∃ k : Nat, k ≤ L.length ∧ i = .int .i64 k ∧ Hid (∀ x ∈ L.take k, hasCodeI s x = false) ∧ wr = w) (fun i _ => L.length - (intOf i).toNat)
  case atStart => exact ⟨0, Nat.zero_le _, rfl, (by simp [Hid]), rfl⟩
  case round =>
    obtain ⟨k, hk, rfl, HP, rfl⟩ := hrel
    by_cases hlt : k < L.length
    · obtain ⟨b, off, rfl, hlb, c0, _⟩ := HL.out k hlt
      cases hp : (L[k].code.toList == s.toList)
      · have HQ : Hid (hasCodeI s L[k] = false) := hp
        go_wp2
        go_roundw
        case rel => exact ⟨k + 1, by omega, by go_num, take_step (hasCodeI s) L hlt HP.out HQ.out, trivial⟩
        case measure => simp [intOf]; omega
      · have HQ : Hid (hasCodeI s L[k] = true) := hp
        go_wp2
        go_ret
        exact ⟨ret_i (idx_hit (hasCodeI s) L hlt HP.out HQ.out).symm, rfl⟩
    · go_wp2
      go_ret
      refine ⟨ret_i (idx_none (hasCodeI s) L ?_).symm, rfl⟩
      have := HP.out
      rwa [List.take_of_length_le (by omega)] at this

set_option maxHeartbeats 400000 in
theorem findIClosure (x : Interest) (a : Addr) (s : ByteArray) (w : World) (hc : w.cell? a = some (.string s)) :
    Calls Try.prog 126 #[x.val, .pointer (some a)] w fun e' w' => e' = .returned (.bool (hasCodeI s x)) ∧ Below w.heap.size w w' := by
  have B1 : Below w.heap.size w (w.alloc (.cells #[.string x.code, .int .i64 x.kind, .string x.owner, .int .i64 x.value, .int .i64 x.age] 110)) := (Below.refl _ _).alloc (Nat.le_refl _) _
  have hc1 := below_cell B1 hc
  have HB := Lib.hid B1
  clear hc B1
  go_enter Try.func126, Try.ntmps126
  go_wp2
  go_ret
  exact ⟨rfl, HB.out⟩
set_option maxHeartbeats 1000000 in
set_option maxRecDepth 100000 in
theorem findI_impl (A : Option Addr) (cap : Nat) (L : List Interest) (s : ByteArray) (w : World) (hL : Interest.At w A L) (hlen : L.length ≤ 9223372036854775807) :
    Calls Try.prog 105 #[.slice A L.length cap, .string s] w fun e w' => e = .returned (.tuple #[.int .i64 (ixc (findI L s)).1, .int .i64 (ixc (findI L s)).2]) ∧ Below w.heap.size w w' := by
  have B1 : Below w.heap.size w (w.alloc (.cells #[.string s] 9)) := (Below.refl _ _).alloc (Nat.le_refl _) _
  have HD := Lib.hid (made_cell w #[.string s] 9 0 (.string s) rfl)
  have HB := Lib.hid B1
  have HA := Lib.hid (hL.below B1)
  clear B1 hL
  go_enter Try.func105, Try.ntmps105
  go_wp2_with fail
  refine (indexOfInterest 126 #[.pointer (some ⟨w.heap.size, 0, none⟩)] A cap L (hasCodeI s) _ HA.out ⟨run_callFunc_enter Try.func126 (by kernel_rfl) (by kernel_rfl), fun w' hw x _ => findIClosure x _ s w' (below_cell hw HD.out)⟩ hlen).mono ?_
  rintro e w1 ⟨rfl, hb⟩
  have HB2 := Lib.hid (HB.out.trans (hb.mono HB.out.size))
  clear hb
  go_wp2
  go_ret2
  exact ⟨rfl, HB2.out⟩

def fitB (L : List Interest) (e : Event) : Bool := (ixc (findI L e.interest)).2 == 0
theorem fit_lt (L : List Interest) (e : Event) : fitB L e = !decide (findI L e.interest < 0) := by
  unfold fitB ixc; split <;> simp_all
def fitR (E : List Event) (L : List Interest) : Bool × Int := if isLog E && manifestB L then (E.all (fitB L), 0) else (false, 1)

set_option maxHeartbeats 1000000 in
set_option maxRecDepth 100000 in
theorem fits_spec (A2 : Option Addr) (cap2 : Nat) (E : List Event) (A : Option Addr) (cap : Nat) (L : List Interest) (w : World) (hE : Event.At w A2 E) (hL : Interest.At w A L) (hlen2 : E.length ≤ 9223372036854775807) (hlen : L.length ≤ 9223372036854775807) :
    Calls Try.prog 100 #[.slice A2 E.length cap2, .slice A L.length cap] w fun e w' => e = .returned (.bool (E.all (fitB L))) ∧ w = w' := by
  have HE := Lib.hid hE.at_
  have HA := Lib.hid hL
  clear hL hE
  go_enter Try.func100, Try.ntmps100
  go_wp2
  go_loopw [5] (fun i wr => ∃ k : Nat, k ≤ E.length ∧ i = .int .i64 k ∧ Hid (∀ x ∈ E.take k, fitB L x = true) ∧ wr = w) (fun i _ => E.length - (intOf i).toNat)
  case atStart => exact ⟨0, Nat.zero_le _, rfl, (by simp [Hid]), rfl⟩
  case round =>
    obtain ⟨k, hk, rfl, HP, rfl⟩ := hrel
    by_cases hlt : k < E.length
    · obtain ⟨b, off, rfl, hlb, c0, c1, c2, _⟩ := HE.out k hlt
      by_cases hp : findI L E[k].interest < 0
      · have HQ : Hid (E.all (fitB L) = false) := by
          unfold Hid; rw [← Bool.not_eq_true, List.all_eq_true]; intro g; have := g _ (List.getElem_mem hlt); rw [fit_lt] at this; simp [hp] at this
        go_wp2_with fail
        refine (findI_spec A cap L E[k].interest _ HA.out hlen).mono ?_
        rintro e w2 ⟨rfl, rfl⟩
        go_wp2
        go_ret
        exact ⟨ret_b HQ.out.symm, rfl⟩
      · have HQ : Hid (fitB L E[k] = true) := by unfold Hid; rw [fit_lt]; simp; omega
        go_wp2_with fail
        refine (findI_spec A cap L E[k].interest _ HA.out hlen).mono ?_
        rintro e w2 ⟨rfl, rfl⟩
        go_wp2
        go_roundw
        case rel =>
          refine ⟨k + 1, by omega, by go_num, ?_, trivial⟩
          intro x hx
          rw [List.take_succ_eq_append_getElem hlt, List.mem_append, List.mem_singleton] at hx
          rcases hx with hx | rfl
          · exact HP.out x hx
          · exact HQ.out
        case measure => simp [intOf]; omega
    · have HQ : Hid (E.all (fitB L) = true) := by
        have := HP.out
        rw [List.take_of_length_le (by omega)] at this
        exact List.all_eq_true.2 this
      go_wp2
      go_ret
      exact ⟨ret_b HQ.out.symm, rfl⟩

set_option maxHeartbeats 1000000 in
set_option maxRecDepth 100000 in
theorem fitClosure (e : Event) (g : Nat) (A : Option Addr) (cap : Nat) (L : List Interest) (w : World) (hc : w.cell? ⟨g, 0, none⟩ = some (.slice A L.length cap)) (hL : Interest.At w A L) (hlen : L.length ≤ 9223372036854775807) :
    Calls Try.prog 123 #[e.val, .pointer (some ⟨g, 0, none⟩)] w fun e' w' => e' = .returned (.bool (fitB L e)) ∧ Below w.heap.size w w' := by
  have B1 : Below w.heap.size w (w.alloc (.cells #[.int .i64 e.day, .int .i64 e.kind, .string e.interest, .int .i64 e.amount, .bool e.peril, .bool e.voluntary, .bool e.reasonable] 26)) := (Below.refl _ _).alloc (Nat.le_refl _) _
  have hc1 := below_cell B1 hc
  have HH := Lib.hid (findI_impl A cap L e.interest _ (hL.below B1) hlen)
  have HB := Lib.hid B1
  clear hc B1 hL
  go_enter Try.func123, Try.ntmps123
  go_wp2_with fail
  refine HH.out.mono ?_
  rintro e' w1 ⟨rfl, hb⟩
  have HB2 := Lib.hid (HB.out.trans (hb.mono HB.out.size))
  clear hb
  go_wp2
  go_ret
  exact ⟨rfl, HB2.out⟩
set_option maxHeartbeats 1000000 in
set_option maxRecDepth 100000 in
theorem fits_impl (A2 : Option Addr) (cap2 : Nat) (E : List Event) (A : Option Addr) (cap : Nat) (L : List Interest) (w : World) (hE : Event.At w A2 E) (hL : Interest.At w A L) (hlen2 : E.length ≤ 9223372036854775807) (hlen : L.length ≤ 9223372036854775807) :
    Calls Try.prog 98 #[.slice A2 E.length cap2, .slice A L.length cap] w fun e w' => e = .returned (.bool (E.all (fitB L))) ∧ Below w.heap.size w w' := by
  have B1 : Below w.heap.size w (w.alloc (.cells #[.slice A L.length cap] 58)) := (Below.refl _ _).alloc (Nat.le_refl _) _
  have HD := Lib.hid (made_cell w #[.slice A L.length cap] 58 0 (.slice A L.length cap) rfl)
  have HB := Lib.hid B1
  have HA := Lib.hid (hL.below B1)
  have HE := Lib.hid (hE.below B1)
  clear B1 hL hE
  go_enter Try.func98, Try.ntmps98
  go_wp2_with fail
  refine (allEvent 123 #[.pointer (some ⟨w.heap.size, 0, none⟩)] A2 cap2 E (fitB L) _ HE.out ⟨run_callFunc_enter Try.func123 (by kernel_rfl) (by kernel_rfl), fun w' hw x _ => fitClosure x _ A cap L w' (below_cell hw HD.out) (HA.out.below hw) hlen⟩ hlen2).mono ?_
  rintro e w1 ⟨rfl, hb⟩
  have HB2 := Lib.hid (HB.out.trans (hb.mono HB.out.size))
  clear hb
  go_wp2
  go_ret
  exact ⟨rfl, HB2.out⟩


set_option maxHeartbeats 1000000 in
set_option maxRecDepth 100000 in
theorem DoesFit_spec (A2 : Option Addr) (cap2 : Nat) (E : List Event) (A : Option Addr) (cap : Nat) (L : List Interest) (w : World) (hE : Event.At w A2 E) (hL : Interest.At w A L) (hs2 : ∀ s ∈ E, s.tiny) (hs : ∀ s ∈ L, s.tiny) (hlen2 : E.length ≤ 9223372036854775807) (hlen : L.length ≤ 1048576) :
    Calls Try.prog 44 #[.slice A2 E.length cap2, .slice A L.length cap] w fun e' w' => e' = .returned (.tuple #[.bool (fitR E L).1, .int .i64 (fitR E L).2]) ∧ Below w.heap.size w w' := by
  have B := Below.refl w.heap.size w
  have HA := Lib.hid hL
  have HE := Lib.hid hE
  clear hL hE
  go_enter Try.func44, Try.ntmps44
  go_wp2_with fail
  refine (isLog_spec A2 cap2 E _ (HE.out.below B) hs2 hlen2).mono ?_
  rintro e w1 ⟨rfl, hb⟩
  replace B := B.trans (hb.mono B.size)
  clear hb
  cases h0 : isLog E
  · skip
    go_wp2
    go_ret2
    exact ⟨by try unfold fitR; simp [*], B⟩
  · skip
    go_wp2_with fail
    refine (isManifest_spec A cap L _ (HA.out.below B) hs hlen).mono ?_
    rintro e w2 ⟨rfl, hb⟩
    replace B := B.trans (hb.mono B.size)
    clear hb
    cases h1 : manifestB L
    · skip
      go_wp2
      go_ret2
      exact ⟨by try unfold fitR; simp [*], B⟩
    · skip
      go_wp2_with fail
      refine (fits_spec A2 cap2 E A cap L _ (HE.out.below B) (HA.out.below B) (by omega) (by omega)).mono ?_
      rintro e w3 ⟨rfl, rfl⟩
      go_wp2
      go_ret2
      exact ⟨by try unfold fitR; simp [*], B⟩

set_option maxHeartbeats 1000000 in
set_option maxRecDepth 100000 in
theorem DoesFit_impl (A2 : Option Addr) (cap2 : Nat) (E : List Event) (A : Option Addr) (cap : Nat) (L : List Interest) (w : World) (hE : Event.At w A2 E) (hL : Interest.At w A L) (hs2 : ∀ s ∈ E, s.tiny) (hs : ∀ s ∈ L, s.tiny) (hlen2 : E.length ≤ 9223372036854775807) (hlen : L.length ≤ 1048576) :
    Calls Try.prog 43 #[.slice A2 E.length cap2, .slice A L.length cap] w fun e' w' => e' = .returned (.tuple #[.bool (fitR E L).1, .int .i64 (fitR E L).2]) ∧ Below w.heap.size w w' := by
  have B := Below.refl w.heap.size w
  have HA := Lib.hid hL
  have HE := Lib.hid hE
  clear hL hE
  go_enter Try.func43, Try.ntmps43
  go_wp2_with fail
  refine (isLog_impl A2 cap2 E _ (HE.out.below B) hs2 hlen2).mono ?_
  rintro e w1 ⟨rfl, hb⟩
  replace B := B.trans (hb.mono B.size)
  clear hb
  cases h0 : isLog E
  · skip
    go_wp2
    go_ret2
    exact ⟨by try unfold fitR; simp [*], B⟩
  · skip
    go_wp2_with fail
    refine (isManifest_impl A cap L _ (HA.out.below B) hs hlen).mono ?_
    rintro e w2 ⟨rfl, hb⟩
    replace B := B.trans (hb.mono B.size)
    clear hb
    cases h1 : manifestB L
    · skip
      go_wp2
      go_ret2
      exact ⟨by try unfold fitR; simp [*], B⟩
    · skip
      go_wp2_with fail
      refine (fits_impl A2 cap2 E A cap L _ (HE.out.below B) (HA.out.below B) (by omega) (by omega)).mono ?_
      rintro e w3 ⟨rfl, hb⟩
      replace B := B.trans (hb.mono B.size)
      clear hb
      go_wp2
      go_ret2
      exact ⟨by try unfold fitR; simp [*], B⟩
end Go.Proofs.Ytfbafdnjjfmhjaa
