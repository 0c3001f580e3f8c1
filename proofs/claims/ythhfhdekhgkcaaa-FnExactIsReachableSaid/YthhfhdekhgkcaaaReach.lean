/-
  The plain events, and IsReachable on both sides.
-/
import Derived.Test.YthhfhdekhgkcaaaDecide
import Derived.Test.YthhfhdekhgkcaaaEventFun
namespace Go.Proofs.Ythhfhdekhgkcaaa
open Go.RowKit

def evI (κ : Int) (j : Nat) : Event := ⟨0, κ, ⟨#[]⟩, 0, bits .and .i64 (j : Nat) 4 != 0, bits .and .i64 (j : Nat) 2 != 0, bits .and .i64 (j : Nat) 1 != 0⟩
def evS (κ : Int) (j : Nat) : Event := ⟨0, κ, ⟨#[]⟩, 0, ((j : Nat) : Int) % 2 == 1, ((j : Nat) : Int) / 2 % 2 == 1, ((j : Nat) : Int) / 4 == 1⟩
def evRow (κ n : Nat) : List Event := (List.range n).map fun j => evI (κ : Nat) j
def plainTo (κ j : Nat) : List Event := (List.range κ).flatMap (fun k => evRow k 8) ++ evRow κ j
def plainI : List Event := (List.range 7).flatMap fun k => evRow k 8
theorem plainTo_succ (κ j : Nat) : plainTo κ (j + 1) = plainTo κ j ++ [evI (κ : Nat) j] := by
  have e : evRow κ (j + 1) = evRow κ j ++ [evI (κ : Nat) j] := by unfold evRow; rw [List.range_succ, List.map_append]; rfl
  unfold plainTo
  rw [e, List.append_assoc]
theorem plainTo_next (κ : Nat) : plainTo (κ + 1) 0 = plainTo κ 8 := by
  unfold plainTo
  rw [List.range_succ, List.flatMap_append, List.append_assoc]
  simp [evRow]
theorem plainTo_len (κ j : Nat) : (plainTo κ j).length = 8 * κ + j := by
  induction κ generalizing j with
  | zero => simp [plainTo, evRow]
  | succ κ ih =>
    have h : plainTo (κ + 1) j = plainTo (κ + 1) 0 ++ evRow (κ + 1) j := by simp [plainTo, evRow]
    rw [h, plainTo_next, List.length_append, ih]
    simp [evRow]; omega
theorem plainTo_end : plainTo 7 0 = plainI := by simp [plainTo, plainI, evRow]
def anyEv (q : Event → Bool) : Bool := (List.range 7).any fun κ => (List.range 8).any fun j => q (evS (κ : Nat) j)
theorem ev_perm (κ : Int) : evI κ 0 = evS κ 0 ∧ evI κ 1 = evS κ 4 ∧ evI κ 2 = evS κ 2 ∧ evI κ 3 = evS κ 6 ∧ evI κ 4 = evS κ 1 ∧ evI κ 5 = evS κ 5 ∧ evI κ 6 = evS κ 3 ∧ evI κ 7 = evS κ 7 := by
  refine ⟨?_, ?_, ?_, ?_, ?_, ?_, ?_, ?_⟩ <;> (unfold evI evS; congr 1)
theorem row_any (q : Event → Bool) (κ : Nat) : (evRow κ 8).any q = (List.range 8).any fun j => q (evS (κ : Nat) j) := by
  obtain ⟨h0, h1, h2, h3, h4, h5, h6, h7⟩ := ev_perm (κ : Int)
  have e : List.range 8 = [0, 1, 2, 3, 4, 5, 6, 7] := rfl
  rw [evRow, e]
  simp only [List.map_cons, List.map_nil, List.any_cons, List.any_nil, h0, h1, h2, h3, h4, h5, h6, h7]
  ac_rfl
theorem plain_any (q : Event → Bool) : plainI.any q = anyEv q := by
  unfold plainI anyEv
  rw [List.any_flatMap]
  congr 1
  funext κ
  exact row_any q κ

def hitB (L : List Clause) (s : ByteArray) (e : Event) : Bool := (chain L e).contains (findN L s)
def reachR (L : List Clause) (s : ByteArray) : Bool × Int := if isRulebook L then (if findC L s < 0 then (false, 4) else (anyEv (hitB L s), 0)) else (false, 1)
theorem hit_code {L : List Clause} (R : Rule L) (e : Event) (s : ByteArray) (h : 0 ≤ findC L s) : (chainCodes L e).any (fun t => sEq s t) = hitB L s e := by
  have hb := idx_bd (hasCode s) L
  have hn : ((findN L s : Nat) : Int) = findC L s := by unfold findN; omega
  have hlt : findN L s < L.length := by unfold findC at hn h; omega
  have hp : sEq L[findN L s].code s = true := by
    unfold findC idx at hn h
    split at hn
    · rename_i k hk
      rw [List.findIdx?_eq_some_iff_getElem] at hk
      obtain ⟨h1, h2, _⟩ := hk
      obtain rfl : findN L s = k := by omega
      exact h2
    · omega
  rw [sEq_iff] at hp
  unfold chainCodes hitB
  rw [List.any_map, Bool.eq_iff_iff, List.any_eq_true, List.contains_iff_mem]
  constructor
  · rintro ⟨i, hi, hc⟩
    have hil := chain_mem R e i hi
    simp only [Function.comp, codeAt_eq hil, sEq_iff] at hc
    have := R.find i hil
    rw [← hc] at this
    obtain rfl : findN L s = i := by omega
    exact hi
  · intro hi
    refine ⟨_, hi, ?_⟩
    simp only [Function.comp, codeAt_eq hlt, sEq_iff]
    exact hp.symm

set_option maxHeartbeats 4000000 in
set_option maxRecDepth 100000 in
theorem plainEvents_any (w : World) : Calls Try.prog 84 #[] w (Event.Made w plainI) := by
  obtain ⟨i0, hi, hz0, hz1, hz2⟩ := info_parts Event.info
  have HO := Lib.hid (own_new w w.heap.size 34 7 (Nat.le_refl _))
  go_enter Try.func84, Try.ntmps84
  go_wp2
  go_loopw [1, 2, 3] (fun o i _ wr => ∃ (κ : Nat) (B : Option Addr) (cb : Nat), κ ≤ 7 ∧ i = .int .i64 κ ∧ o = .slice B (8 * κ) cb ∧ Hid (wr.ownsRow w.heap.size 34 7 (.slice B (8 * κ) cb) (8 * κ) (Event.flat (plainTo κ 0))) ∧ Hid (Below w.heap.size w wr)) (fun _ i _ _ => 7 - (intOf i).toNat)
  case atStart => exact ⟨0, _, _, by omega, rfl, rfl, HO, Lib.hid ((Below.refl _ _).alloc (Nat.le_refl _) _)⟩
  case round =>
    clear HO
    obtain ⟨κ, B, cb, hk, rfl, rfl, HW, HX⟩ := hrel
    by_cases hlt : κ < 7
    · have h6 : (κ : Int) ≤ 6 := by omega
      go_wp2
      go_loopw [1, 3, 9] (fun o _ i wr => ∃ (j : Nat) (B : Option Addr) (cb : Nat), j ≤ 8 ∧ i = .int .i64 j ∧ o = .slice B (8 * κ + j) cb ∧ Hid (wr.ownsRow w.heap.size 34 7 (.slice B (8 * κ + j) cb) (8 * κ + j) (Event.flat (plainTo κ j))) ∧ Hid (Below w.heap.size w wr)) (fun _ _ i _ => 8 - (intOf i).toNat)
      case atStart => exact ⟨0, B, cb, by omega, rfl, rfl, HW, HX⟩
      case round =>
        clear HW HX
        obtain ⟨j, B, cb, hj, rfl, rfl, HW, HX⟩ := hrel
        by_cases hlt2 : j < 8
        · have hown := HW.out
          have hs1 := HX.out.size
          have H1 := Lib.hid (hown.alloc (.cells #[.int .i64 0, .int .i64 (κ : Nat), .string ⟨#[]⟩, .int .i64 0, .bool (bits .and .i64 (j : Nat) 4 != 0), .bool (bits .and .i64 (j : Nat) 2 != 0), .bool (bits .and .i64 (j : Nat) 1 != 0)] 34))
          have HP : Hid (Event.flat (plainTo κ (j + 1)) = Event.flat (plainTo κ j) ++ (#[.int .i64 0, .int .i64 (κ : Nat), .string ⟨#[]⟩, .int .i64 0, .bool (bits .and .i64 (j : Nat) 4 != 0), .bool (bits .and .i64 (j : Nat) 2 != 0), .bool (bits .and .i64 (j : Nat) 1 != 0)] : Array Value).toList) := by
            unfold Hid; rw [plainTo_succ, Event.flat, Event.flat, List.flatMap_append]; rfl
          go_wp2_with (at_builtin; refine wpList_append_own _ rfl _ _ 65 rfl (w.heap.size) 34 i0 _ 7 48 Try.underlying65 hi hz0 hz1 hz2 rfl (by decide) _ _ _ rfl H1.out ⟨wr.heap.size, 0, none⟩ 1 1 (#[.int .i64 0, .int .i64 (κ : Nat), .string ⟨#[]⟩, .int .i64 0, .bool (bits .and .i64 (j : Nat) 4 != 0), .bool (bits .and .i64 (j : Nat) 2 != 0), .bool (bits .and .i64 (j : Nat) 1 != 0)] : Array Value).toList rfl rfl ?c1 ?c2 ?c3 ?c4 ?c5 ?_)
          case c2 => exact ⟨rfl, rfl, rfl, rfl, rfl, rfl, rfl⟩
          case c3 => unfold maxLen; omega
          case c4 => omega
          case c5 => omega
          intro v' w2 hown' hgr hnil
          have HX2 := Lib.hid ((HX.out.alloc HX.out.size (.cells #[.int .i64 0, .int .i64 (κ : Nat), .string ⟨#[]⟩, .int .i64 0, .bool (bits .and .i64 (j : Nat) 4 != 0), .bool (bits .and .i64 (j : Nat) 2 != 0), .bool (bits .and .i64 (j : Nat) 1 != 0)] 34)).grown hgr (by simp; omega) (fun g hg => (hown.lt g hg).1))
          obtain ⟨A2, cb2, rfl, _⟩ := own_shape hown'
          have H2 := Lib.hid hown'
          clear hown' hgr hnil hs1 hown
          go_wp2
          go_roundw
          case rel =>
            refine ⟨j + 1, A2, cb2, by omega, by go_num, rfl, ?_, HX2⟩
            rw [HP.out]
            exact H2
          case measure => simp [intOf]; omega
        · obtain rfl : j = 8 := by omega
          have h2 := HW.out
          rw [← plainTo_next] at h2
          have H2 := Lib.hid h2
          clear h2
          go_wp2
          go_roundw
          case rel => exact ⟨κ + 1, B, cb, by omega, by go_num, rfl, H2, HX⟩
          case measure => simp [intOf]; omega
    · obtain rfl : κ = 7 := by omega
      have h2 := HW.out
      rw [plainTo_end] at h2
      have H2 := Lib.hid h2
      clear h2
      go_wp2
      go_ret
      exact ⟨B, cb, rfl, H2.out, HX.out⟩

set_option maxHeartbeats 1000000 in
set_option maxRecDepth 100000 in
theorem indexText (A : Option Addr) (cap : Nat) (M : List ByteArray) (s : ByteArray) (w : World) (hM : Texts.At w A M) (hlen : M.length ≤ 9223372036854775807) :
    Calls Try.prog 110 #[.slice A M.length cap, .string s] w fun e w' => e = .returned (.int .i64 (idx (fun t => sEq s t) M)) ∧ w = w' := by
  have HL := Lib.hid hM.at_
  clear hM
  go_enter Try.func110, Try.ntmps110
  go_wp2
  go_loopw [8] (fun i wr => ∃ k : Nat, k ≤ M.length ∧ i = .int .i64 k ∧ Hid (∀ x ∈ M.take k, (fun t => sEq s t) x = false) ∧ wr = w) (fun i _ => M.length - (intOf i).toNat)
  case atStart => exact ⟨0, Nat.zero_le _, rfl, (by simp [Hid]), rfl⟩
  case round =>
    obtain ⟨k, hk, rfl, HP, rfl⟩ := hrel
    by_cases hlt : k < M.length
    · obtain ⟨b, off, rfl, hlb, c0⟩ := HL.out k hlt
      cases hp : (s.toList == M[k].toList)
      · have HQ : Hid ((fun t => sEq s t) M[k] = false) := hp
        go_wp2
        go_roundw
        case rel => exact ⟨k + 1, by omega, by go_num, take_step (fun t => sEq s t) M hlt HP.out HQ.out, trivial⟩
        case measure => simp [intOf]; omega
      · have HQ : Hid ((fun t => sEq s t) M[k] = true) := hp
        go_wp2
        go_ret
        exact ⟨ret_i (idx_hit (fun t => sEq s t) M hlt HP.out HQ.out).symm, rfl⟩
    · go_wp2
      go_ret
      refine ⟨ret_i (idx_none (fun t => sEq s t) M ?_).symm, rfl⟩
      have := HP.out
      rwa [List.take_of_length_le (by omega)] at this
set_option maxHeartbeats 400000 in
theorem containsText (A : Option Addr) (cap : Nat) (M : List ByteArray) (s : ByteArray) (w : World) (hM : Texts.At w A M) (hlen : M.length ≤ 9223372036854775807) :
    Calls Try.prog 86 #[.slice A M.length cap, .string s] w fun e w' => e = .returned (.bool (M.any fun t => sEq s t)) ∧ w = w' := by
  have HA := Lib.hid (idx_any (fun t => sEq s t) M)
  go_enter Try.func86, Try.ntmps86
  go_wp2_with fail
  refine (indexText A cap M s w hM hlen).mono ?_
  rintro e w' ⟨rfl, rfl⟩
  go_wp2
  go_ret
  exact ⟨ret_b HA.out, rfl⟩

set_option maxHeartbeats 1000000 in
set_option maxRecDepth 100000 in
theorem has_spec (A : Option Addr) (cap : Nat) (M : List Int) (n : Int) (w : World) (hM : Ints.At w A M) (hlen : M.length ≤ 9223372036854775807) :
    Calls Try.prog 81 #[.slice A M.length cap, .int .i64 n] w fun e w' => e = .returned (.bool (M.any fun x => x == n)) ∧ w = w' := by
  have HL := Lib.hid hM.at_
  clear hM
  go_enter Try.func81, Try.ntmps81
  go_wp2
  go_loopw [5] (fun i wr => ∃ k : Nat, k ≤ M.length ∧ i = .int .i64 k ∧ Hid (∀ x ∈ M.take k, (fun x => x == n) x = false) ∧ wr = w) (fun i _ => M.length - (intOf i).toNat)
  case atStart => exact ⟨0, Nat.zero_le _, rfl, (by simp [Hid]), rfl⟩
  case round =>
    obtain ⟨k, hk, rfl, HP, rfl⟩ := hrel
    by_cases hlt : k < M.length
    · obtain ⟨b, off, rfl, hlb, c0⟩ := HL.out k hlt
      cases hp : (M[k] == n)
      · have HQ : Hid ((fun x => x == n) M[k] = false) := hp
        go_wp2
        go_roundw
        case rel => exact ⟨k + 1, by omega, by go_num, take_step (fun x => x == n) M hlt HP.out HQ.out, trivial⟩
        case measure => simp [intOf]; omega
      · have HQ : Hid (M.any (fun x => x == n) = true) := List.any_eq_true.2 ⟨_, List.getElem_mem hlt, hp⟩
        go_wp2
        go_ret
        exact ⟨ret_b HQ.out.symm, rfl⟩
    · have HQ : Hid (M.any (fun x => x == n) = false) := by
        have := HP.out
        rw [List.take_of_length_le (by omega)] at this
        exact List.any_eq_false.2 fun x hx => by have := this x hx; simpa using this
      go_wp2
      go_ret
      exact ⟨ret_b HQ.out.symm, rfl⟩
end Go.Proofs.Ythhfhdekhgkcaaa
