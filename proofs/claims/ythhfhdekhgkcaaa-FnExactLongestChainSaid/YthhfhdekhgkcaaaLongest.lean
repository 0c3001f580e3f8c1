/-
  LongestChain on both sides.
-/
import Derived.Test.YthhfhdekhgkcaaaDecs
namespace Go.Proofs.Ythhfhdekhgkcaaa
open Go.RowKit

def lenAt (D : List Dec) (k : Nat) : Nat := match D[k]? with | some d => d.2.length | none => 0
theorem lenAt_eq {D : List Dec} {k : Nat} (h : k < D.length) : lenAt D k = D[k].2.length := by simp [lenAt, h]
def bestAt (f : Nat → Nat) : Nat → Nat × Nat
  | 0 => (0, 0)
  | k + 1 => if (bestAt f k).2 < f k then (k, f k) else bestAt f k
theorem best_le (f : Nat → Nat) : ∀ k, (bestAt f k).1 ≤ k
  | 0 => Nat.le_refl _
  | k + 1 => by
    have := best_le f k
    rw [bestAt]; split
    · simp
    · omega
theorem best_lt (f : Nat → Nat) : ∀ k, (bestAt f (k + 1)).1 ≤ k
  | 0 => by rw [bestAt]; split <;> simp [bestAt]
  | k + 1 => by
    have := best_lt f k
    rw [bestAt]; split
    · simp
    · omega
theorem best_most (f : Nat → Nat) (hf : 0 < f 0) : ∀ k, (bestAt f (k + 1)).2 = f (bestAt f (k + 1)).1
  | 0 => by rw [bestAt, if_pos (by simpa [bestAt] using hf)]
  | k + 1 => by
    have := best_most f hf k
    rw [bestAt]; split
    · rfl
    · exact this
theorem most_le (f : Nat → Nat) (hf : ∀ k, f k ≤ 12) : ∀ k, (bestAt f k).2 ≤ 12
  | 0 => by simp [bestAt]
  | k + 1 => by
    rw [bestAt]; split
    · exact hf k
    · exact most_le f hf k
theorem best_hit {f : Nat → Nat} {k : Nat} (h : (bestAt f k).2 < f k) : bestAt f (k + 1) = (k, f k) := by rw [bestAt, if_pos h]
theorem best_miss {f : Nat → Nat} {k : Nat} (h : ¬ (bestAt f k).2 < f k) : bestAt f (k + 1) = bestAt f k := by rw [bestAt, if_neg h]
def longR (L : List Clause) (E : List Event) : Int × Int := if isRulebook L && isLog E then (if E.length = 0 then (0, 4) else (((bestAt (lenAt (E.map (decOf L))) E.length).1 : Int), 0)) else (0, 1)
theorem lens {L : List Clause} (E : List Event) {k : Nat} (h : k < E.length) : lenAt (E.map (decOf L)) k = (chain L E[k]).length := by
  rw [lenAt_eq (by rw [List.length_map]; exact h)]
  simp [decOf, chainCodes]
theorem lens12 {L : List Clause} (R : Rule L) (E : List Event) (k : Nat) : lenAt (E.map (decOf L)) k ≤ 12 := by
  by_cases h : k < E.length
  · rw [lens E h]; exact chain_len R _
  · simp [lenAt, h]
theorem lens_pos {L : List Clause} (R : Rule L) (E : List Event) {k : Nat} (h : k < E.length) : 0 < lenAt (E.map (decOf L)) k := by
  rw [lens E h]; exact chain_pos R _

set_option maxHeartbeats 4000000 in
set_option maxRecDepth 100000 in
theorem LongestChain_spec (A : Option Addr) (cap : Nat) (L : List Clause) (A2 : Option Addr) (cap2 : Nat) (E : List Event) (w : World) (hL : Clause.At w A L) (hE : Event.At w A2 E) (hs : ∀ s ∈ L, s.tiny) (hs2 : ∀ s ∈ E, s.tiny) (hlen : L.length ≤ 9223372036854775807) (hlen2 : E.length ≤ 9223372036854775807) :
    Calls Try.prog 51 #[.slice A L.length cap, .slice A2 E.length cap2] w fun e' w' => e' = .returned (.tuple #[.int .i64 (longR L E).1, .int .i64 (longR L E).2]) ∧ Below w.heap.size w w' := by
  have HA := Lib.hid hL
  have HE := Lib.hid hE.at_
  have HEA := Lib.hid hE
  have HX := isRulebook_spec A cap L w hL hs hlen
  cases hv : isRulebook L
  · have hq : longR L E = (0, 1) := by rw [longR, hv]; rfl
    rw [hv] at HX
    have HX2 := Lib.hid HX
    rw [hq]
    clear hq hv HX hL hE
    go_enter Try.func51, Try.ntmps51
    go_wp2_with fail
    refine HX2.out.mono ?_
    rintro e w1 ⟨rfl, hb⟩
    go_wp2
    go_ret2
    exact ⟨rfl, hb⟩
  rw [hv] at HX
  have HX2 := Lib.hid HX
  cases hv2 : isLog E
  · have hq : longR L E = (0, 1) := by rw [longR, hv, hv2]; rfl
    rw [hq]
    clear hq hv HX hL hE
    go_enter Try.func51, Try.ntmps51
    go_wp2_with fail
    refine HX2.out.mono ?_
    rintro e w1 ⟨rfl, hb⟩
    go_wp2_with fail
    refine (calls_b hv2 (isLog_spec A2 cap2 E w1 (HEA.out.below hb) hs2 hlen2)).mono ?_
    rintro e w2 ⟨rfl, hb2⟩
    have HB2 := Lib.hid (hb.trans (hb2.mono hb.size))
    clear hb hb2
    go_wp2
    go_ret2
    exact ⟨rfl, HB2.out⟩
  have hq : longR L E = (if E.length = 0 then (0, 4) else (((bestAt (lenAt (E.map (decOf L))) E.length).1 : Int), 0)) := by rw [longR, hv, hv2]; rfl
  have HR := Lib.hid (rule_of hv)
  have h15 := log_len hv2
  have HQL := Lib.hid hq
  obtain ⟨f, hf⟩ : ∃ f, f = lenAt (E.map (decOf L)) := ⟨_, rfl⟩
  have hf12 : ∀ k, f k ≤ 12 := by rw [hf]; exact lens12 HR.out E
  have HFP : Hid (∀ k, k < E.length → 0 < f k) := by rw [hf]; exact fun k hk => lens_pos HR.out E hk
  have HFE : Hid (∀ k (hk : k < E.length), (chain L E[k]).length = f k) := by rw [hf]; exact fun k hk => (lens E hk).symm
  rw [← hf] at HQL
  have HF12 := Lib.hid hf12
  clear hq hv HX hL hE hf hf12
  go_enter Try.func51, Try.ntmps51
  go_wp2_with fail
  refine HX2.out.mono ?_
  rintro e w1 ⟨rfl, hb⟩
  go_wp2_with fail
  refine (calls_b hv2 (isLog_spec A2 cap2 E w1 (HEA.out.below hb) hs2 hlen2)).mono ?_
  rintro e w2 ⟨rfl, hb2⟩
  have HB2 := Lib.hid (hb.trans (hb2.mono hb.size))
  clear hb hb2
  go_wp2
  go_loopw [6, 7, 8] (fun best most i wr => ∃ (k : Nat), k ≤ E.length ∧ i = .int .i64 k ∧ best = .int .i64 ((bestAt f k).1 : Nat) ∧ most = .int .i64 ((bestAt f k).2 : Nat) ∧ Hid (Below w.heap.size w wr)) (fun _ _ i _ => E.length - (intOf i).toNat)
  case atStart => exact ⟨0, Nat.zero_le _, rfl, rfl, rfl, HB2⟩
  case round =>
    clear HB2
    obtain ⟨k, hk, rfl, rfl, rfl, HB⟩ := hrel
    by_cases hlt : k < E.length
    · obtain ⟨be, offe, hEA, hlbe, c0, c1, c2, c3, c4, c5, c6⟩ := HE.out k hlt
      subst hEA
      replace c0 := (HB.out.cell hlbe).trans c0
      replace c1 := (HB.out.cell hlbe).trans c1
      replace c2 := (HB.out.cell hlbe).trans c2
      replace c3 := (HB.out.cell hlbe).trans c3
      replace c4 := (HB.out.cell hlbe).trans c4
      replace c5 := (HB.out.cell hlbe).trans c5
      replace c6 := (HB.out.cell hlbe).trans c6
      have C1 := chain_spec A cap L E[k] wr (HA.out.below HB.out) HR.out
      unfold Ints.Made at C1
      rw [ints_len, HFE.out k hlt] at C1
      have HC1 := Lib.hid C1
      have hm12 := most_le f HF12.out k
      have hfk := HF12.out k
      have hbk := best_le f k
      clear C1 hlbe
      by_cases hg : (bestAt f k).2 < f k
      · have HN : Hid (bestAt f (k + 1) = (k, f k)) := best_hit hg
        go_wp2_with fail
        refine HC1.out.mono ?_
        rintro e w3 ⟨B3, c3, rfl, ho, hb3⟩
        have HB3 := Lib.hid (HB.out.trans (hb3.mono HB.out.size))
        clear ho hb3
        go_wp2
        go_roundw
        case rel => exact ⟨k + 1, by omega, by go_num, by rw [HN.out], by rw [HN.out], HB3⟩
        case measure => simp [intOf]; omega
      · have HN : Hid (bestAt f (k + 1) = bestAt f k) := best_miss hg
        go_wp2_with fail
        refine HC1.out.mono ?_
        rintro e w3 ⟨B3, c3, rfl, ho, hb3⟩
        have HB3 := Lib.hid (HB.out.trans (hb3.mono HB.out.size))
        clear ho hb3
        go_wp2
        go_roundw
        case rel => exact ⟨k + 1, by omega, by go_num, by rw [HN.out], by rw [HN.out], HB3⟩
        case measure => simp [intOf]; omega
    · obtain rfl : k = E.length := by omega
      have hbk := best_le f E.length
      have hm12 := most_le f HF12.out E.length
      by_cases h0 : E.length = 0
      · have hz : ((((bestAt f E.length).2 : Nat) : Int) == 0) = true := by rw [h0]; rfl
        have HZ : Hid (longR L E = (0, 4)) := by unfold Hid; rw [HQL.out, if_pos h0]
        clear h0
        go_wp2
        go_ret2
        exact ⟨by rw [HZ.out]; rfl, HB.out⟩
      · obtain ⟨n, hn⟩ : ∃ n, E.length = n + 1 := ⟨E.length - 1, by omega⟩
        have hz : 0 < (bestAt f E.length).2 := by
          rw [hn, best_most f (HFP.out 0 (by omega)) n]
          exact HFP.out _ (by have := best_lt f n; omega)
        have HZ : Hid (longR L E = (((bestAt f E.length).1 : Int), 0)) := by unfold Hid; rw [HQL.out, if_neg h0]
        have hz2 : ((((bestAt f E.length).2 : Nat) : Int) == 0) = false := by rw [beq_eq_false_iff_ne]; omega
        clear h0 hn hz
        go_wp2
        go_ret2
        exact ⟨by rw [HZ.out]; rfl, HB.out⟩

set_option maxHeartbeats 4000000 in
set_option maxRecDepth 100000 in
theorem LongestChain_impl (b off cap : Nat) (L : List Clause) (A2 : Option Addr) (cap2 : Nat) (E : List Event) (w : World) (hL : Clause.At w (some ⟨b, off, none⟩) L) (hE : Event.At w A2 E) (hs : ∀ s ∈ L, s.tiny) (hs2 : ∀ s ∈ E, s.tiny) (hlen : L.length ≤ 9223372036854775807) (hlen2 : E.length ≤ 9223372036854775807) (hcap : L.length ≤ cap) (hcm : cap ≤ 9223372036854775807) :
    Calls Try.prog 52 #[.slice (some ⟨b, off, none⟩) L.length cap, .slice A2 E.length cap2] w fun e' w' => e' = .returned (.tuple #[.int .i64 (longR L E).1, .int .i64 (longR L E).2]) ∧ Below w.heap.size w w' := by
  have HX := DecideLog_impl b off cap L A2 cap2 E w hL hE hs hs2 hlen hlen2 hcap hcm
  cases hv : isRulebook L && isLog E
  · have hq : longR L E = (0, 1) := by rw [longR, hv]; rfl
    have hd : decsR L E = ([], 1) := by rw [decsR, hv]; rfl
    rw [hd] at HX
    have HX2 := Lib.hid HX
    rw [hq]
    clear hq hv HX hL hE hd
    go_enter Try.func52, Try.ntmps52
    go_wp2_with fail
    refine HX2.out.mono ?_
    rintro e w1 ⟨B, c, rfl, ho, hb⟩
    clear ho
    go_wp2
    go_ret2
    exact ⟨rfl, hb⟩
  have hv1 : isRulebook L = true := by simp only [Bool.and_eq_true] at hv; exact hv.1
  have hv2 : isLog E = true := by simp only [Bool.and_eq_true] at hv; exact hv.2
  have hq : longR L E = (if E.length = 0 then (0, 4) else (((bestAt (lenAt (E.map (decOf L))) E.length).1 : Int), 0)) := by rw [longR, hv]; rfl
  have hd : decsR L E = (E.map (decOf L), 0) := by rw [decsR, hv]; rfl
  have HR := Lib.hid (rule_of hv1)
  have h15 := log_len hv2
  rw [hd] at HX
  have HQL := Lib.hid hq
  have hf12 := lens12 HR.out E
  have HFP : Hid (∀ k, k < E.length → 0 < lenAt (E.map (decOf L)) k) := fun k hk => lens_pos HR.out E hk
  have hDl : (E.map (decOf L)).length = E.length := List.length_map ..
  obtain ⟨D, hDD⟩ : ∃ D, D = E.map (decOf L) := ⟨_, rfl⟩
  rw [← hDD] at HX hf12 HFP hDl HQL
  rw [← hDl] at HQL
  have HFP2 : Hid (∀ k, k < D.length → 0 < lenAt D k) := fun k hk => HFP.out k (by omega)
  have h15d : D.length ≤ 15 := by omega
  have HF12 := Lib.hid hf12
  have HX2 := Lib.hid HX
  clear hq hv hv1 hv2 HX hL hE hd hDD hDl hf12 HFP HR
  go_enter Try.func52, Try.ntmps52
  go_wp2_with fail
  refine HX2.out.mono ?_
  rintro e w1 ⟨B, c, rfl, ho, hb⟩
  have HDA := Lib.hid ho.at_
  have HB1 := Lib.hid hb
  clear ho hb HX2
  by_cases h0 : D.length = 0
  · have HZ : Hid (longR L E = (0, 4)) := by unfold Hid; rw [HQL.out, if_pos h0]
    go_wp2
    go_ret2
    exact ⟨by rw [HZ.out]; rfl, HB1.out⟩
  have HZ : Hid (longR L E = (((bestAt (lenAt D) D.length).1 : Int), 0)) := by unfold Hid; rw [HQL.out, if_neg h0]
  have h0i : ((D.length : Int) == 0) = false := by rw [beq_eq_false_iff_ne]; omega
  have h1d : 0 < D.length := by omega
  clear h0
  go_wp2
  go_loopw [8, 27] (fun best i wr => ∃ (k : Nat), k ≤ D.length ∧ i = .int .i64 k ∧ best = .int .i64 ((bestAt (lenAt D) k).1 : Nat) ∧ Hid (Below w1.heap.size w1 wr)) (fun _ i _ => D.length - (intOf i).toNat)
  case atStart => exact ⟨0, Nat.zero_le _, rfl, rfl, Lib.hid (Below.refl _ _)⟩
  case round =>
    obtain ⟨k, hk, rfl, rfl, HB⟩ := hrel
    by_cases hlt : k < D.length
    · have hbk := best_le (lenAt D) k
      obtain ⟨q, hqq⟩ : ∃ q, (bestAt (lenAt D) k).1 = q := ⟨_, rfl⟩
      rw [hqq] at hbk ⊢
      have hqlt : q < D.length := by omega
      obtain ⟨b1, off1, Ak, ck, rfl, hb1, r0, r1, _⟩ := (HDA.out.below HB.out) k hlt
      obtain ⟨b2, off2, Aq, cq, he, _, s0, s1, _⟩ := (HDA.out.below HB.out) q hqlt
      obtain ⟨rfl, rfl⟩ : b1 = b2 ∧ off1 = off2 := by injection he with he; injection he with he1 he2; exact ⟨he1, he2⟩
      clear he
      have B1 : Below wr.heap.size wr (wr.alloc (.cells #[.int .i64 D[k].1, .slice Ak D[k].2.length ck] 53)) := (Below.refl _ _).alloc (Nat.le_refl _) _
      have z0 := new_cell wr #[.int .i64 D[k].1, .slice Ak D[k].2.length ck] 53 0 (.int .i64 D[k].1) rfl
      have z1 := new_cell wr #[.int .i64 D[k].1, .slice Ak D[k].2.length ck] 53 1 (.slice Ak D[k].2.length ck) rfl
      have y1 := fun x : BW (wr.alloc (.cells #[.int .i64 D[k].1, .slice Ak D[k].2.length ck] 53)) => x.cell (below_cell B1 s1)
      have HB2 := Lib.hid (HB.out.trans (B1.mono HB.out.size))
      have hlk := lenAt_eq hlt
      have hlq := lenAt_eq hqlt
      have l1 := HF12.out k
      have l2 := HF12.out q
      rw [hlk] at l1
      rw [hlq] at l2
      have HQ := Lib.hid hqq
      have HLK := Lib.hid hlk
      have HLQ := Lib.hid hlq
      have HST : Hid ((bestAt (lenAt D) k).2 < lenAt D k ↔ (k = 0 ∨ D[q].2.length < D[k].2.length)) := by
        unfold Hid
        cases k with
        | zero => simp only [bestAt, true_or, iff_true]; exact HFP2.out 0 hlt
        | succ k => rw [best_most (lenAt D) (HFP2.out 0 h1d) k, HQ.out, HLK.out, HLQ.out]; simp
      clear B1 hlk hlq s0 s1 hb1 hqq
      by_cases hg : ¬ D[q].2.length < D[k].2.length
      · have hg' := hg
        have HN : Hid ((bestAt (lenAt D) (k + 1)).1 = q) := by
          unfold Hid
          by_cases hk0 : k = 0
          · subst hk0
            rw [best_hit (HST.out.2 (.inl rfl))]
            have := HQ.out
            simp only [bestAt] at this
            exact this
          · rw [best_miss (fun h => by rcases HST.out.1 h with h | h; exact hk0 h; exact hg' h)]
            exact HQ.out
        clear hg'
        go_wp2
        refine wp_region_bw (by kernel_rfl) (by kernel_rfl) ?_
        repeat (go_big_quiet_step (fail))
        refine wpQuiet_nil ?_
        intro wq hx
        have HQ2 := Lib.hid (HB2.out.trans ((bw_out hx).mono HB2.out.size))
        clear hx z0 z1 y1
        go_wp2
        go_roundw
        case rel => exact ⟨k + 1, by omega, by go_num, by rw [HN.out], HQ2⟩
        case measure => simp [intOf]; omega
      · have hg' : D[q].2.length < D[k].2.length := by omega
        replace hg := hg'
        have HN : Hid ((bestAt (lenAt D) (k + 1)).1 = k) := by
          unfold Hid
          rw [best_hit (HST.out.2 (.inr hg'))]
        clear hg'
        go_wp2
        refine wp_region_bw (by kernel_rfl) (by kernel_rfl) ?_
        repeat (go_big_quiet_step (fail))
        refine wpQuiet_nil ?_
        intro wq hx
        have HQ2 := Lib.hid (HB2.out.trans ((bw_out hx).mono HB2.out.size))
        clear hx z0 z1 y1
        go_wp2
        go_roundw
        case rel => exact ⟨k + 1, by omega, by go_num, by rw [HN.out], HQ2⟩
        case measure => simp [intOf]; omega
    · obtain rfl : k = D.length := by omega
      have hbk := best_le (lenAt D) D.length
      go_wp2
      go_ret2
      exact ⟨by rw [HZ.out]; rfl, HB1.out.trans (HB.out.mono HB1.out.size)⟩
end Go.Proofs.Ythhfhdekhgkcaaa
