/-
  The generic functions over lists of impl.Interest.
-/
import Derived.Test.YtfbafdnjjfmhjaaInterest
import Derived.Test.YtfbafdnjjfmhjaaInts
namespace Go.Proofs.Ytfbafdnjjfmhjaa
open Go.RowKit

set_option maxHeartbeats 1000000 in
set_option maxRecDepth 100000 in
theorem indexInterest (f : FuncId) (fc : Array Value) (A : Option Addr) (cap : Nat) (L : List Interest) (p : Interest → Bool) (w : World) (hL : Interest.At w A L) (hf : Fun1 Try.prog f fc w Interest.val p L) (hlen : L.length ≤ 9223372036854775807) :
    Calls Try.prog 136 #[.slice A L.length cap, .func (.func f) #[] fc] w fun e w' => e = .returned (.int .i64 (idx p L)) ∧ Below w.heap.size w w' := by
  have HL := Lib.hid hL.at_
  have HF := Lib.hid hf.calls
  have hcf := hf.enter
  clear hL hf
  go_enter Try.func136, Try.ntmps136
  go_wp2
  go_loopw [8] (fun i wr => ∃ k : Nat, k ≤ L.length ∧ i = .int .i64 k ∧ Hid (∀ x ∈ L.take k, p x = false) ∧ Below w.heap.size w wr) (fun i _ => L.length - (intOf i).toNat)
  case atStart => exact ⟨0, Nat.zero_le _, rfl, (by simp [Hid]), Below.refl _ _⟩
  case round =>
    obtain ⟨k, hk, rfl, HP, hb⟩ := hrel
    by_cases hlt : k < L.length
    · obtain ⟨b, off, rfl, hlb, c0, c1, c2, c3, c4⟩ := HL.out k hlt
      replace c0 := (hb.cell hlb).trans c0
      replace c1 := (hb.cell hlb).trans c1
      replace c2 := (hb.cell hlb).trans c2
      replace c3 := (hb.cell hlb).trans c3
      replace c4 := (hb.cell hlb).trans c4
      have HC := Lib.hid (HF.out wr hb L[k] (List.getElem_mem hlt))
      cases hp : p L[k]
      · have HQ := Lib.hid hp
        rw [hp] at HC
        clear hp
        go_wp2_with fail
        refine HC.out.mono ?_
        rintro e w1 ⟨rfl, hb1⟩
        go_wp2
        go_roundw
        case rel => exact ⟨k + 1, by omega, by go_num, take_step p L hlt HP.out HQ.out, hb.trans (hb1.mono hb.size)⟩
        case measure => simp [intOf]; omega
      · have HQ := Lib.hid hp
        rw [hp] at HC
        clear hp
        go_wp2_with fail
        refine HC.out.mono ?_
        rintro e w1 ⟨rfl, hb1⟩
        go_wp2
        go_ret
        exact ⟨ret_i (idx_hit p L hlt HP.out HQ.out).symm, hb.trans (hb1.mono hb.size)⟩
    · go_wp2
      go_ret
      refine ⟨ret_i (idx_none p L ?_).symm, hb⟩
      have := HP.out
      rwa [List.take_of_length_le (by omega)] at this



set_option maxHeartbeats 400000 in
set_option maxRecDepth 100000 in
theorem indexOfInterest (f : FuncId) (fc : Array Value) (A : Option Addr) (cap : Nat) (L : List Interest) (p : Interest → Bool) (w : World) (hL : Interest.At w A L) (hf : Fun1 Try.prog f fc w Interest.val p L) (hlen : L.length ≤ 9223372036854775807) :
    Calls Try.prog 125 #[.slice A L.length cap, .func (.func f) #[] fc] w fun e w' => e = .returned (.tuple #[.int .i64 (ixc (idx p L)).1, .int .i64 (ixc (idx p L)).2]) ∧ Below w.heap.size w w' := by
  have HX := Lib.hid (indexInterest f fc A cap L p w hL hf hlen)
  clear hL hf
  go_enter Try.func125, Try.ntmps125
  go_wp2_with fail
  refine HX.out.mono ?_
  rintro e w1 ⟨rfl, hb1⟩
  go_wp2
  · have h : idx p L < 0 := by assumption
    go_ret2
    exact ⟨by rw [ixc, if_pos h]; rfl, hb1⟩
  · have h : 0 ≤ idx p L := by assumption
    go_ret2
    exact ⟨by rw [ixc, if_neg (by omega)]; rfl, hb1⟩


set_option maxHeartbeats 400000 in
set_option maxRecDepth 100000 in
theorem copyOfInterest (A : Option Addr) (cap : Nat) (L : List Interest) (w : World) (hL : Interest.At w A L) (hlen : L.length ≤ 1048576) :
    Calls Try.prog 106 #[.slice A L.length cap] w (Interest.Made w L) := by
  have hcell := hL.2
  have hn : (Interest.flat L).length = L.length * 5 := hL.1
  obtain ⟨i0, hi, hz0, hz1, hz2⟩ := info_parts Interest.info
  have hown0 := World.ownsRow_made (base := w.heap.size) (e := 110) (size := 5) w #[] 0 (Nat.le_refl _) (by unfold maxLen; omega) (by simp)
  by_cases h0 : 0 < L.length
  · obtain ⟨b, off, rfl, hlt, hc⟩ := hcell h0
    have hc' : ∀ j u, (Interest.flat L)[j]? = some u → (w.alloc (.cells #[] 110)).cell? ((⟨b, off, none⟩ : Addr).add j) = some u := fun j u hj => by
      rw [Go.WideShapes.add_plain]
      exact (World.cell?_alloc_lt w _ _ hlt).trans (hc j u hj)
    have HC := Lib.hid hc'
    have HO := Lib.hid hown0
    have HN := Lib.hid hn
    clear hc hc' hown0 hcell hL hn
    go_enter Try.func106, Try.ntmps106
    go_wp2_with (at_builtin; refine wpList_append_own _ rfl _ _ 58 rfl w.heap.size 110 i0 _ 5 56 Try.underlying58 hi hz0 hz1 hz2 rfl (by decide) _ _ _ rfl HO.out ⟨b, off, none⟩ L.length cap (Interest.flat L) rfl HN.out ?c1 ?c2 ?c3 ?c4 ?c5 ?_)
    case c1 => exact HC.out
    case c2 => exact Interest.ones L
    case c3 => unfold maxLen; omega
    case c4 => omega
    case c5 => simp
    intro v' w1 hown hgr hnil
    have HB := Lib.hid (((Below.refl w.heap.size w).alloc (Nat.le_refl _) _).grown hgr (by simp) (by simp [Value.ownBlock]))
    obtain ⟨A', cap', rfl, _⟩ := own_shape hown
    have H1 := Lib.hid hown
    clear hown hgr hnil
    go_wp2
    go_ret
    exact ⟨A', cap', rfl, H1.out, HB.out⟩
  · have hl0 : L = [] := List.length_eq_zero_iff.1 (by omega)
    subst hl0
    have HO := Lib.hid hown0
    clear hown0 hcell hL hn
    have fin : ∀ (v' : Value) (w1 : World), w1.ownsRow w.heap.size 110 5 v' 0 ([] : List Value) → Below w.heap.size w w1 → Interest.Made w [] (.returned v') w1 := fun v' w1 ho hb => by
      obtain ⟨A', cap', rfl, _⟩ := own_shape ho
      exact ⟨A', cap', rfl, ho, hb⟩
    have FIN := Lib.hid fin
    clear fin
    cases A with
    | none =>
      go_enter Try.func106, Try.ntmps106
      go_wp2_with (at_builtin; refine wpList_append_own_none _ rfl _ _ 58 rfl w.heap.size 110 i0 5 Try.underlying58 hi hz1 _ _ _ rfl HO.out _ _ rfl ?_)
      go_wp2
      go_ret
      exact FIN.out _ _ HO.out ((Below.refl _ _).alloc (Nat.le_refl _) _)
    | some ad =>
      go_enter Try.func106, Try.ntmps106
      go_wp2_with (at_builtin; refine wpList_append_own _ rfl _ _ 58 rfl w.heap.size 110 i0 _ 5 56 Try.underlying58 hi hz0 hz1 hz2 rfl (by decide) _ _ _ rfl HO.out ad 0 cap [] rfl rfl ?c1 ?c2 ?c3 ?c4 ?c5 ?_)
      case c1 => intro j u hu; simp at hu
      case c2 => intro u hu; simp at hu
      case c3 => unfold maxLen; omega
      case c4 => omega
      case c5 => simp
      intro v' w1 hown hgr hnil
      have HB := Lib.hid (((Below.refl w.heap.size w).alloc (Nat.le_refl _) _).grown hgr (by simp) (by simp [Value.ownBlock]))
      have H1 := Lib.hid hown
      clear hown hgr hnil
      go_wp2
      go_ret
      exact FIN.out _ _ H1.out HB.out

end Go.Proofs.Ytfbafdnjjfmhjaa
