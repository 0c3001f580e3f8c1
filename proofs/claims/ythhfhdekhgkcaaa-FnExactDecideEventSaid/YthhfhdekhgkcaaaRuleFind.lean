/-
  The first clause that matches, FindClause and FirstMatch, on both sides.
-/
import Derived.Test.YthhfhdekhgkcaaaRuleFn
namespace Go.Proofs.Ythhfhdekhgkcaaa
open Go.RowKit

theorem first_more {L : List Clause} {e : Event} {j : Nat} (R : Rule L) (hj : j < L.length) (h : matches_ L[j] e = false) : j + 1 < L.length := by
  by_cases hx : j + 1 < L.length
  · exact hx
  · have h2 := last_matches R e
    have : L.length - 1 = j := by omega
    simp only [this] at h2
    rw [h] at h2
    cases h2
theorem no_step {L : List Clause} {e : Event} {k j : Nat} (hj : j < L.length) (h : ∀ i (hi : i < L.length), k ≤ i → i < j → matches_ L[i] e = false) (hp : matches_ L[j] e = false) : ∀ i (hi : i < L.length), k ≤ i → i < j + 1 → matches_ L[i] e = false := by
  intro i hi h1 h2
  rcases Nat.lt_succ_iff_lt_or_eq.1 h2 with h3 | rfl
  · exact h i hi h1 h3
  · exact hp

set_option maxHeartbeats 2000000 in
set_option maxRecDepth 100000 in
theorem first_spec (A : Option Addr) (cap : Nat) (L : List Clause) (k : Nat) (e : Event) (w : World) (hL : Clause.At w A L) (R : Rule L) (hk : k < L.length) :
    Calls Try.prog 78 #[.slice A L.length cap, .int .i64 k, e.val] w fun e' w' => e' = .returned (.int .i64 (firstN L e k)) ∧ Below w.heap.size w w' := by
  have HL := Lib.hid hL.at_
  have HR := Lib.hid R
  have hle := R.le
  have B1 : Below w.heap.size w (w.alloc (.cells #[.int .i64 e.day, .int .i64 e.kind, .string e.interest, .int .i64 e.amount, .bool e.peril, .bool e.voluntary, .bool e.reasonable] 34)) := (Below.refl _ _).alloc (Nat.le_refl _) _
  have E0 := Lib.hid (made_cell w #[.int .i64 e.day, .int .i64 e.kind, .string e.interest, .int .i64 e.amount, .bool e.peril, .bool e.voluntary, .bool e.reasonable] 34 0 (.int .i64 e.day) rfl)
  have E1 := Lib.hid (made_cell w #[.int .i64 e.day, .int .i64 e.kind, .string e.interest, .int .i64 e.amount, .bool e.peril, .bool e.voluntary, .bool e.reasonable] 34 1 (.int .i64 e.kind) rfl)
  have E2 := Lib.hid (made_cell w #[.int .i64 e.day, .int .i64 e.kind, .string e.interest, .int .i64 e.amount, .bool e.peril, .bool e.voluntary, .bool e.reasonable] 34 2 (.string e.interest) rfl)
  have E3 := Lib.hid (made_cell w #[.int .i64 e.day, .int .i64 e.kind, .string e.interest, .int .i64 e.amount, .bool e.peril, .bool e.voluntary, .bool e.reasonable] 34 3 (.int .i64 e.amount) rfl)
  have E4 := Lib.hid (made_cell w #[.int .i64 e.day, .int .i64 e.kind, .string e.interest, .int .i64 e.amount, .bool e.peril, .bool e.voluntary, .bool e.reasonable] 34 4 (.bool e.peril) rfl)
  have E5 := Lib.hid (made_cell w #[.int .i64 e.day, .int .i64 e.kind, .string e.interest, .int .i64 e.amount, .bool e.peril, .bool e.voluntary, .bool e.reasonable] 34 5 (.bool e.voluntary) rfl)
  have E6 := Lib.hid (made_cell w #[.int .i64 e.day, .int .i64 e.kind, .string e.interest, .int .i64 e.amount, .bool e.peril, .bool e.voluntary, .bool e.reasonable] 34 6 (.bool e.reasonable) rfl)
  have HB1 := Lib.hid B1
  clear hL R B1
  have KK : Hid (k < L.length) := hk
  go_enter Try.func78, Try.ntmps78
  go_wp2
  go_loopw [1] (fun i wr => ∃ j : Nat, k ≤ j ∧ j < L.length ∧ i = .int .i64 j ∧ Hid (∀ i (hi : i < L.length), k ≤ i → i < j → matches_ L[i] e = false) ∧ Hid (Below (w.alloc (.cells #[.int .i64 e.day, .int .i64 e.kind, .string e.interest, .int .i64 e.amount, .bool e.peril, .bool e.voluntary, .bool e.reasonable] 34)).heap.size (w.alloc (.cells #[.int .i64 e.day, .int .i64 e.kind, .string e.interest, .int .i64 e.amount, .bool e.peril, .bool e.voluntary, .bool e.reasonable] 34)) wr)) (fun i _ => L.length - (intOf i).toNat)
  case atStart => exact ⟨k, Nat.le_refl _, hk, rfl, (by unfold Hid; intro i _ h1 h2; omega), Lib.hid (Below.refl _ _)⟩
  case round =>
    clear hk
    obtain ⟨j, hkj, hlt, rfl, HP, HX⟩ := hrel
    have hb : Below w.heap.size w wr := HB1.out.trans (HX.out.mono HB1.out.size)
    obtain ⟨b, off, rfl, hlb, c0, c1, c2, c3, c4, c5, c6⟩ := HL.out j hlt
    replace c0 := fun x : BW wr => x.cell ((hb.cell hlb).trans c0)
    replace c1 := fun x : BW wr => x.cell ((hb.cell hlb).trans c1)
    replace c2 := fun x : BW wr => x.cell ((hb.cell hlb).trans c2)
    replace c3 := fun x : BW wr => x.cell ((hb.cell hlb).trans c3)
    replace c4 := fun x : BW wr => x.cell ((hb.cell hlb).trans c4)
    replace c5 := fun x : BW wr => x.cell ((hb.cell hlb).trans c5)
    replace c6 := fun x : BW wr => x.cell ((hb.cell hlb).trans c6)
    have e0 := fun x : BW wr => x.cell (below_cell HX.out E0.out)
    have e1 := fun x : BW wr => x.cell (below_cell HX.out E1.out)
    have e2 := fun x : BW wr => x.cell (below_cell HX.out E2.out)
    have e3 := fun x : BW wr => x.cell (below_cell HX.out E3.out)
    have e4 := fun x : BW wr => x.cell (below_cell HX.out E4.out)
    have e5 := fun x : BW wr => x.cell (below_cell HX.out E5.out)
    have e6 := fun x : BW wr => x.cell (below_cell HX.out E6.out)
    have HB := Lib.hid hb
    clear hb hlb
    cases hm : matches_ L[j] e
    · have hj1 := Lib.hid (first_more HR.out hlt hm)
      go_wp2
      refine wp_region_bw (by kernel_rfl) (by kernel_rfl) ?_
      repeat (go_big_quiet_step ((go_at_call 67; exact bw_of _ (calls_b hm (matches_spec _ _ _)))))
      refine wpQuiet_nil ?_
      intro wq hx
      have hq := bw_out hx
      clear hx c0 c1 c2 c3 c4 c5 c6 e0 e1 e2 e3 e4 e5 e6
      go_wp2
      go_roundw
      case rel => exact ⟨j + 1, by omega, hj1.out, by go_num, no_step hlt HP.out hm, HX.out.trans (hq.mono HX.out.size)⟩
      case measure => simp [intOf]; omega
    · go_wp2
      refine wp_region_bw (by kernel_rfl) (by kernel_rfl) ?_
      repeat (go_big_quiet_step ((go_at_call 67; exact bw_of _ (calls_b hm (matches_spec _ _ _)))))
      refine wpQuiet_nil ?_
      intro wq hx
      have hq := bw_out hx
      clear hx c0 c1 c2 c3 c4 c5 c6 e0 e1 e2 e3 e4 e5 e6
      go_wp2
      go_ret
      exact ⟨ret_i (by rw [first_hit hkj hlt HP.out hm]), HB.out.trans (hq.mono HB.out.size)⟩

set_option maxHeartbeats 400000 in
theorem firstClosure (x : Clause) (e : Event) (g : Nat) (w : World) (h0 : w.cell? ⟨g, 0, none⟩ = some (.int .i64 e.day)) (h1 : w.cell? ⟨g, 1, none⟩ = some (.int .i64 e.kind)) (h2 : w.cell? ⟨g, 2, none⟩ = some (.string e.interest)) (h3 : w.cell? ⟨g, 3, none⟩ = some (.int .i64 e.amount)) (h4 : w.cell? ⟨g, 4, none⟩ = some (.bool e.peril)) (h5 : w.cell? ⟨g, 5, none⟩ = some (.bool e.voluntary)) (h6 : w.cell? ⟨g, 6, none⟩ = some (.bool e.reasonable)) :
    Calls Try.prog 108 #[x.val, .pointer (some ⟨g, 0, none⟩)] w fun e' w' => e' = .returned (.bool (matches_ x e)) ∧ Below w.heap.size w w' := by
  have B1 : Below w.heap.size w (w.alloc (.cells #[.string x.code, .int .i64 x.kind, .int .i64 x.peril, .int .i64 x.voluntary, .int .i64 x.reasonable, .int .i64 x.result, .string x.to] 26)) := (Below.refl _ _).alloc (Nat.le_refl _) _
  replace h0 := below_cell B1 h0
  replace h1 := below_cell B1 h1
  replace h2 := below_cell B1 h2
  replace h3 := below_cell B1 h3
  replace h4 := below_cell B1 h4
  replace h5 := below_cell B1 h5
  replace h6 := below_cell B1 h6
  have HB := Lib.hid B1
  clear B1
  go_enter Try.func108, Try.ntmps108
  go_wp2_with fail
  refine (matches_impl _ _ _).mono ?_
  rintro e' w1 ⟨rfl, hb⟩
  have HB2 := Lib.hid (HB.out.trans (hb.mono HB.out.size))
  clear hb
  go_wp2
  go_ret
  exact ⟨rfl, HB2.out⟩

set_option maxHeartbeats 1000000 in
set_option maxRecDepth 100000 in
theorem first_impl (b off cap : Nat) (L : List Clause) (k : Nat) (e : Event) (w : World) (hL : Clause.At w (some ⟨b, off, none⟩) L) (R : Rule L) (hk : k < L.length) (hcap : L.length ≤ cap) (hcm : cap ≤ 9223372036854775807) :
    Calls Try.prog 80 #[.slice (some ⟨b, off, none⟩) L.length cap, .int .i64 k, e.val] w fun e' w' => e' = .returned (.int .i64 (firstN L e k)) ∧ Below w.heap.size w w' := by
  have B1 : Below w.heap.size w (w.alloc (.cells #[.int .i64 e.day, .int .i64 e.kind, .string e.interest, .int .i64 e.amount, .bool e.peril, .bool e.voluntary, .bool e.reasonable] 34)) := (Below.refl _ _).alloc (Nat.le_refl _) _
  have E0 := Lib.hid (made_cell w #[.int .i64 e.day, .int .i64 e.kind, .string e.interest, .int .i64 e.amount, .bool e.peril, .bool e.voluntary, .bool e.reasonable] 34 0 (.int .i64 e.day) rfl)
  have E1 := Lib.hid (made_cell w #[.int .i64 e.day, .int .i64 e.kind, .string e.interest, .int .i64 e.amount, .bool e.peril, .bool e.voluntary, .bool e.reasonable] 34 1 (.int .i64 e.kind) rfl)
  have E2 := Lib.hid (made_cell w #[.int .i64 e.day, .int .i64 e.kind, .string e.interest, .int .i64 e.amount, .bool e.peril, .bool e.voluntary, .bool e.reasonable] 34 2 (.string e.interest) rfl)
  have E3 := Lib.hid (made_cell w #[.int .i64 e.day, .int .i64 e.kind, .string e.interest, .int .i64 e.amount, .bool e.peril, .bool e.voluntary, .bool e.reasonable] 34 3 (.int .i64 e.amount) rfl)
  have E4 := Lib.hid (made_cell w #[.int .i64 e.day, .int .i64 e.kind, .string e.interest, .int .i64 e.amount, .bool e.peril, .bool e.voluntary, .bool e.reasonable] 34 4 (.bool e.peril) rfl)
  have E5 := Lib.hid (made_cell w #[.int .i64 e.day, .int .i64 e.kind, .string e.interest, .int .i64 e.amount, .bool e.peril, .bool e.voluntary, .bool e.reasonable] 34 5 (.bool e.voluntary) rfl)
  have E6 := Lib.hid (made_cell w #[.int .i64 e.day, .int .i64 e.kind, .string e.interest, .int .i64 e.amount, .bool e.peril, .bool e.voluntary, .bool e.reasonable] 34 6 (.bool e.reasonable) rfl)
  have hAD : Clause.At (w.alloc (.cells #[.int .i64 e.day, .int .i64 e.kind, .string e.interest, .int .i64 e.amount, .bool e.peril, .bool e.voluntary, .bool e.reasonable] 34)) (some ⟨b, off + k * 7, none⟩) (L.drop k) := by
    have := Reads.drop (hL.below B1) (Nat.le_of_lt hk)
    rw [Clause.flat, flat_drop _ _ Clause.len] at this
    unfold Clause.At
    rw [List.length_drop]
    exact this
  have hI := indexClause 108 #[.pointer (some ⟨w.heap.size, 0, none⟩)] _ (cap - k) (L.drop k) (fun c => matches_ c e) _ hAD ⟨run_callFunc_enter Try.func108 (by kernel_rfl) (by kernel_rfl), fun w' hw x _ => firstClosure x e _ w' (below_cell hw E0.out) (below_cell hw E1.out) (below_cell hw E2.out) (below_cell hw E3.out) (below_cell hw E4.out) (below_cell hw E5.out) (below_cell hw E6.out)⟩ (by rw [List.length_drop]; omega)
  rw [List.length_drop, first_idx R e hk] at hI
  have HI := Lib.hid hI
  have HB := Lib.hid B1
  have hf1 := first_lt R e hk
  have hf2 := first_ge L e k
  have hle := R.le
  generalize firstN L e k = f at hf1 hf2 HI ⊢
  have hne : ¬ cap = k := by omega
  clear hL R B1 hAD hI E0 E1 E2 E3 E4 E5 E6
  go_enter Try.func80, Try.ntmps80
  go_wp2_with fail
  refine HI.out.mono ?_
  rintro e' w1 ⟨rfl, hb⟩
  have HB2 := Lib.hid (HB.out.trans (hb.mono HB.out.size))
  clear hb
  go_wp2
  go_ret
  exact ⟨ret_i (by omega), HB2.out⟩

theorem first_spec_i (A : Option Addr) (cap : Nat) (L : List Clause) (n : Int) (e : Event) (w : World) (hL : Clause.At w A L) (h : isRulebook L = true) (hn : inB n 0 ((L.length : Int) - 1) = true) :
    Calls Try.prog 78 #[.slice A L.length cap, .int .i64 n, e.val] w fun e' w' => e' = .returned (.int .i64 (firstN L e n.toNat)) ∧ Below w.heap.size w w' := by
  have hb := inB_iff.1 hn
  obtain ⟨k, rfl⟩ : ∃ k : Nat, n = k := ⟨n.toNat, by omega⟩
  exact first_spec A cap L k e w hL (rule_of h) (by omega)
theorem first_impl_i (b off cap : Nat) (L : List Clause) (n : Int) (e : Event) (w : World) (hL : Clause.At w (some ⟨b, off, none⟩) L) (h : isRulebook L = true) (hn : inB n 0 ((L.length : Int) - 1) = true) (hcap : L.length ≤ cap) (hcm : cap ≤ 9223372036854775807) :
    Calls Try.prog 80 #[.slice (some ⟨b, off, none⟩) L.length cap, .int .i64 n, e.val] w fun e' w' => e' = .returned (.int .i64 (firstN L e n.toNat)) ∧ Below w.heap.size w w' := by
  have hb := inB_iff.1 hn
  obtain ⟨k, rfl⟩ : ∃ k : Nat, n = k := ⟨n.toNat, by omega⟩
  exact first_impl b off cap L k e w hL (rule_of h) (by omega) hcap hcm

def findR (L : List Clause) (s : ByteArray) : Int × Int := if isRulebook L then ixc (findC L s) else (0, 1)
def firstR (L : List Clause) (n : Int) (e : Event) : Int × Int := if isRulebook L && e.okB then (if inB n 0 ((L.length : Int) - 1) then (firstN L e n.toNat, 0) else (0, 2)) else (0, 1)


set_option maxHeartbeats 1000000 in
set_option maxRecDepth 100000 in
theorem FindClause_spec (A : Option Addr) (cap : Nat) (L : List Clause) (s : ByteArray) (w : World) (hL : Clause.At w A L) (hs : ∀ s ∈ L, s.tiny) (hlen : L.length ≤ 9223372036854775807) :
    Calls Try.prog 30 #[.slice A L.length cap, .string s] w fun e' w' => e' = .returned (.tuple #[.int .i64 (findR L s).1, .int .i64 (findR L s).2]) ∧ Below w.heap.size w w' := by
  have B := Below.refl w.heap.size w
  have HA := Lib.hid hL
  clear hL
  have hbd := idx_bd (hasCode s) L
  go_enter Try.func30, Try.ntmps30
  go_wp2_with fail
  refine (isRulebook_spec A cap L _ (HA.out.below B) hs hlen).mono ?_
  rintro e w1 ⟨rfl, hb⟩
  replace B := B.trans (hb.mono B.size)
  clear hb
  cases h0 : isRulebook L
  · skip
    go_wp2
    go_ret2
    exact ⟨by unfold findR; simp [*], B⟩
  · skip
    go_wp2_with fail
    refine (find_spec A cap L s _ (HA.out.below B) hlen).mono ?_
    rintro e w2 ⟨rfl, rfl⟩
    by_cases h1 : findC L s < 0
    · skip
      go_wp2
      go_ret2
      have q : findR L s = (0, 4) := by unfold findR; rw [h0, if_pos rfl, ixc, if_pos h1]
      rw [q]
      exact ⟨rfl, B⟩
    · skip
      go_wp2
      go_ret2
      have q : findR L s = (findC L s, 0) := by unfold findR; rw [h0, if_pos rfl, ixc, if_neg (by omega)]
      rw [q]
      exact ⟨rfl, B⟩

set_option maxHeartbeats 1000000 in
set_option maxRecDepth 100000 in
theorem FindClause_impl (A : Option Addr) (cap : Nat) (L : List Clause) (s : ByteArray) (w : World) (hL : Clause.At w A L) (hs : ∀ s ∈ L, s.tiny) (hlen : L.length ≤ 9223372036854775807) :
    Calls Try.prog 31 #[.slice A L.length cap, .string s] w fun e' w' => e' = .returned (.tuple #[.int .i64 (findR L s).1, .int .i64 (findR L s).2]) ∧ Below w.heap.size w w' := by
  have B := (Below.refl w.heap.size w).alloc (Nat.le_refl _) (.cells #[.string s] 9)
  have d0 := made_cell w #[.string s] 9 0 (.string s) rfl
  have HA := Lib.hid hL
  clear hL
  go_enter Try.func31, Try.ntmps31
  go_wp2_with fail
  refine (isRulebook_impl A cap L _ (HA.out.below B) hs hlen).mono ?_
  rintro e w1 ⟨rfl, hb⟩
  replace B := B.trans (hb.mono B.size)
  replace d0 := below_cell hb d0
  clear hb
  cases h0 : isRulebook L
  · skip
    go_wp2
    go_ret2
    exact ⟨by unfold findR; simp [*], B⟩
  · skip
    go_wp2_with fail
    refine (indexOfClause 77 #[.pointer (some ⟨w.heap.size, 0, none⟩)] A cap L (hasCode s) _ (HA.out.below B) ⟨run_callFunc_enter Try.func77 (by kernel_rfl) (by kernel_rfl), fun w' hw x _ => FindClosure x _ s w' (below_cell hw d0)⟩ hlen).mono ?_
    rintro e w2 ⟨rfl, hb⟩
    replace B := B.trans (hb.mono B.size)
    replace d0 := below_cell hb d0
    clear hb
    go_wp2
    go_ret2
    have q : findR L s = ixc (idx (hasCode s) L) := by unfold findR; rw [h0, if_pos rfl]; rfl
    rw [q]
    exact ⟨rfl, B⟩

set_option maxHeartbeats 1000000 in
set_option maxRecDepth 100000 in
theorem FirstMatch_spec (A : Option Addr) (cap : Nat) (L : List Clause) (n : Int) (e : Event) (w : World) (hL : Clause.At w A L) (hs : ∀ s ∈ L, s.tiny) (hlen : L.length ≤ 9223372036854775807) (he : e.tiny) :
    Calls Try.prog 32 #[.slice A L.length cap, .int .i64 n, e.val] w fun e' w' => e' = .returned (.tuple #[.int .i64 (firstR L n e).1, .int .i64 (firstR L n e).2]) ∧ Below w.heap.size w w' := by
  have B := (Below.refl w.heap.size w).alloc (Nat.le_refl _) (.cells #[.int .i64 e.day, .int .i64 e.kind, .string e.interest, .int .i64 e.amount, .bool e.peril, .bool e.voluntary, .bool e.reasonable] 34)
  have e0 := made_cell w #[.int .i64 e.day, .int .i64 e.kind, .string e.interest, .int .i64 e.amount, .bool e.peril, .bool e.voluntary, .bool e.reasonable] 34 0 (.int .i64 e.day) rfl
  have e1 := made_cell w #[.int .i64 e.day, .int .i64 e.kind, .string e.interest, .int .i64 e.amount, .bool e.peril, .bool e.voluntary, .bool e.reasonable] 34 1 (.int .i64 e.kind) rfl
  have e2 := made_cell w #[.int .i64 e.day, .int .i64 e.kind, .string e.interest, .int .i64 e.amount, .bool e.peril, .bool e.voluntary, .bool e.reasonable] 34 2 (.string e.interest) rfl
  have e3 := made_cell w #[.int .i64 e.day, .int .i64 e.kind, .string e.interest, .int .i64 e.amount, .bool e.peril, .bool e.voluntary, .bool e.reasonable] 34 3 (.int .i64 e.amount) rfl
  have e4 := made_cell w #[.int .i64 e.day, .int .i64 e.kind, .string e.interest, .int .i64 e.amount, .bool e.peril, .bool e.voluntary, .bool e.reasonable] 34 4 (.bool e.peril) rfl
  have e5 := made_cell w #[.int .i64 e.day, .int .i64 e.kind, .string e.interest, .int .i64 e.amount, .bool e.peril, .bool e.voluntary, .bool e.reasonable] 34 5 (.bool e.voluntary) rfl
  have e6 := made_cell w #[.int .i64 e.day, .int .i64 e.kind, .string e.interest, .int .i64 e.amount, .bool e.peril, .bool e.voluntary, .bool e.reasonable] 34 6 (.bool e.reasonable) rfl
  have HA := Lib.hid hL
  clear hL
  go_enter Try.func32, Try.ntmps32
  go_wp2_with fail
  refine (isRulebook_spec A cap L _ (HA.out.below B) hs hlen).mono ?_
  rintro e w1 ⟨rfl, hb⟩
  replace B := B.trans (hb.mono B.size)
  replace e0 := below_cell hb e0
  replace e1 := below_cell hb e1
  replace e2 := below_cell hb e2
  replace e3 := below_cell hb e3
  replace e4 := below_cell hb e4
  replace e5 := below_cell hb e5
  replace e6 := below_cell hb e6
  clear hb
  cases h0 : isRulebook L
  · skip
    go_wp2
    go_ret2
    exact ⟨by try unfold firstR; simp [*], B⟩
  · skip
    go_wp2_with fail
    refine (isEvent_spec _ he _).mono ?_
    rintro e w2 ⟨rfl, hb⟩
    replace B := B.trans (hb.mono B.size)
    replace e0 := below_cell hb e0
    replace e1 := below_cell hb e1
    replace e2 := below_cell hb e2
    replace e3 := below_cell hb e3
    replace e4 := below_cell hb e4
    replace e5 := below_cell hb e5
    replace e6 := below_cell hb e6
    clear hb
    cases h1 : e.okB
    · skip
      go_wp2
      go_ret2
      exact ⟨by try unfold firstR; simp [*], B⟩
    · skip
      go_wp2_with fail
      refine (l01In_any _ _ _ _).mono ?_
      rintro e w3 ⟨rfl, rfl⟩
      cases h2 : inB n 0 ((L.length : Int) - 1)
      · skip
        go_wp2
        go_ret2
        exact ⟨by try unfold firstR; simp [*], B⟩
      · skip
        go_wp2_with fail
        refine (first_spec_i A cap L n e _ (HA.out.below B) h0 h2).mono ?_
        rintro e w4 ⟨rfl, hb⟩
        replace B := B.trans (hb.mono B.size)
        replace e0 := below_cell hb e0
        replace e1 := below_cell hb e1
        replace e2 := below_cell hb e2
        replace e3 := below_cell hb e3
        replace e4 := below_cell hb e4
        replace e5 := below_cell hb e5
        replace e6 := below_cell hb e6
        clear hb
        go_wp2
        go_ret2
        exact ⟨by try unfold firstR; simp [*], B⟩

set_option maxHeartbeats 1000000 in
set_option maxRecDepth 100000 in
theorem FirstMatch_impl (b off cap : Nat) (L : List Clause) (n : Int) (e : Event) (w : World) (hL : Clause.At w (some ⟨b, off, none⟩) L) (hs : ∀ s ∈ L, s.tiny) (hlen : L.length ≤ 9223372036854775807) (he : e.tiny) (hcap : L.length ≤ cap) (hcm : cap ≤ 9223372036854775807) :
    Calls Try.prog 33 #[.slice (some ⟨b, off, none⟩) L.length cap, .int .i64 n, e.val] w fun e' w' => e' = .returned (.tuple #[.int .i64 (firstR L n e).1, .int .i64 (firstR L n e).2]) ∧ Below w.heap.size w w' := by
  have B := (Below.refl w.heap.size w).alloc (Nat.le_refl _) (.cells #[.int .i64 e.day, .int .i64 e.kind, .string e.interest, .int .i64 e.amount, .bool e.peril, .bool e.voluntary, .bool e.reasonable] 34)
  have e0 := made_cell w #[.int .i64 e.day, .int .i64 e.kind, .string e.interest, .int .i64 e.amount, .bool e.peril, .bool e.voluntary, .bool e.reasonable] 34 0 (.int .i64 e.day) rfl
  have e1 := made_cell w #[.int .i64 e.day, .int .i64 e.kind, .string e.interest, .int .i64 e.amount, .bool e.peril, .bool e.voluntary, .bool e.reasonable] 34 1 (.int .i64 e.kind) rfl
  have e2 := made_cell w #[.int .i64 e.day, .int .i64 e.kind, .string e.interest, .int .i64 e.amount, .bool e.peril, .bool e.voluntary, .bool e.reasonable] 34 2 (.string e.interest) rfl
  have e3 := made_cell w #[.int .i64 e.day, .int .i64 e.kind, .string e.interest, .int .i64 e.amount, .bool e.peril, .bool e.voluntary, .bool e.reasonable] 34 3 (.int .i64 e.amount) rfl
  have e4 := made_cell w #[.int .i64 e.day, .int .i64 e.kind, .string e.interest, .int .i64 e.amount, .bool e.peril, .bool e.voluntary, .bool e.reasonable] 34 4 (.bool e.peril) rfl
  have e5 := made_cell w #[.int .i64 e.day, .int .i64 e.kind, .string e.interest, .int .i64 e.amount, .bool e.peril, .bool e.voluntary, .bool e.reasonable] 34 5 (.bool e.voluntary) rfl
  have e6 := made_cell w #[.int .i64 e.day, .int .i64 e.kind, .string e.interest, .int .i64 e.amount, .bool e.peril, .bool e.voluntary, .bool e.reasonable] 34 6 (.bool e.reasonable) rfl
  have HA := Lib.hid hL
  clear hL
  go_enter Try.func33, Try.ntmps33
  go_wp2_with fail
  refine (isRulebook_impl _ cap L _ (HA.out.below B) hs hlen).mono ?_
  rintro e w1 ⟨rfl, hb⟩
  replace B := B.trans (hb.mono B.size)
  replace e0 := below_cell hb e0
  replace e1 := below_cell hb e1
  replace e2 := below_cell hb e2
  replace e3 := below_cell hb e3
  replace e4 := below_cell hb e4
  replace e5 := below_cell hb e5
  replace e6 := below_cell hb e6
  clear hb
  cases h0 : isRulebook L
  · skip
    go_wp2
    go_ret2
    exact ⟨by try unfold firstR; simp [*], B⟩
  · skip
    go_wp2_with fail
    refine (isEvent_impl _ he _).mono ?_
    rintro e w2 ⟨rfl, hb⟩
    replace B := B.trans (hb.mono B.size)
    replace e0 := below_cell hb e0
    replace e1 := below_cell hb e1
    replace e2 := below_cell hb e2
    replace e3 := below_cell hb e3
    replace e4 := below_cell hb e4
    replace e5 := below_cell hb e5
    replace e6 := below_cell hb e6
    clear hb
    cases h1 : e.okB
    · skip
      go_wp2
      go_ret2
      exact ⟨by try unfold firstR; simp [*], B⟩
    · skip
      go_wp2_with fail
      refine (countClause _ L.length cap _ hlen).mono ?_
      rintro e w3 ⟨rfl, rfl⟩
      go_wp2_with fail
      refine (in_any _ _ _ _).mono ?_
      rintro e w4 ⟨rfl, rfl⟩
      cases h2 : inB n 0 ((L.length : Int) - 1)
      · skip
        go_wp2
        go_ret2
        exact ⟨by try unfold firstR; simp [*], B⟩
      · skip
        go_wp2_with fail
        refine (first_impl_i b off cap L n e _ (HA.out.below B) h0 h2 hcap hcm).mono ?_
        rintro e w5 ⟨rfl, hb⟩
        replace B := B.trans (hb.mono B.size)
        replace e0 := below_cell hb e0
        replace e1 := below_cell hb e1
        replace e2 := below_cell hb e2
        replace e3 := below_cell hb e3
        replace e4 := below_cell hb e4
        replace e5 := below_cell hb e5
        replace e6 := below_cell hb e6
        clear hb
        go_wp2
        go_ret2
        exact ⟨by try unfold firstR; simp [*], B⟩
end Go.Proofs.Ythhfhdekhgkcaaa
