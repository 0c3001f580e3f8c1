/-
  IsReachable on both sides.
-/
import Derived.Test.YthhfhdekhgkcaaaReach
namespace Go.Proofs.Ythhfhdekhgkcaaa
open Go.RowKit

theorem has_hit {L : List Clause} {s : ByteArray} (e : Event) (h : 0 ≤ findC L s) : (ints (chain L e)).any (fun x => x == findC L s) = hitB L s e := by
  have hn : ((findN L s : Nat) : Int) = findC L s := by unfold findN; omega
  unfold hitB ints
  rw [List.any_map, Bool.eq_iff_iff, List.any_eq_true, List.contains_iff_mem]
  constructor
  · rintro ⟨i, hi, hc⟩
    simp only [Function.comp, beq_iff_eq] at hc
    obtain rfl : i = findN L s := by have : ((i : Nat) : Int) = findC L s := hc; omega
    exact hi
  · intro hi
    refine ⟨_, hi, ?_⟩
    simp only [Function.comp, beq_iff_eq]
    exact hn
theorem any_hit {q : Event → Bool} {κ j : Nat} (h1 : κ < 7) (h2 : j < 8) (h : q (evS (κ : Nat) j) = true) : anyEv q = true :=
  List.any_eq_true.2 ⟨κ, List.mem_range.2 h1, List.any_eq_true.2 ⟨j, List.mem_range.2 h2, h⟩⟩
theorem any_none {q : Event → Bool} (h : ∀ κ < 7, ∀ j < 8, q (evS (κ : Nat) j) = false) : anyEv q = false := by
  refine List.any_eq_false.2 fun κ hκ => ?_
  rw [Bool.not_eq_true, List.any_eq_false]
  intro j hj
  rw [Bool.not_eq_true]
  exact h κ (List.mem_range.1 hκ) j (List.mem_range.1 hj)

set_option maxHeartbeats 4000000 in
set_option maxRecDepth 100000 in
theorem IsReachable_spec (A : Option Addr) (cap : Nat) (L : List Clause) (s : ByteArray) (w : World) (hL : Clause.At w A L) (hs : ∀ s ∈ L, s.tiny) (hlen : L.length ≤ 9223372036854775807) :
    Calls Try.prog 34 #[.slice A L.length cap, .string s] w fun e' w' => e' = .returned (.tuple #[.bool (reachR L s).1, .int .i64 (reachR L s).2]) ∧ Below w.heap.size w w' := by
  have HA := Lib.hid hL
  have HX := isRulebook_spec A cap L w hL hs hlen
  cases hv : isRulebook L
  · have hq : reachR L s = (false, 1) := by rw [reachR, hv]; rfl
    rw [hv] at HX
    have HX2 := Lib.hid HX
    rw [hq]
    clear hq hv HX hL
    go_enter Try.func34, Try.ntmps34
    go_wp2_with fail
    refine HX2.out.mono ?_
    rintro e w1 ⟨rfl, hb⟩
    go_wp2
    go_ret2
    exact ⟨rfl, hb⟩
  rw [hv] at HX
  have HX2 := Lib.hid HX
  have HR := Lib.hid (rule_of hv)
  by_cases hn : findC L s < 0
  · have hq : reachR L s = (false, 4) := by rw [reachR, hv, if_pos rfl, if_pos hn]
    rw [hq]
    clear hq hv HX hL
    go_enter Try.func34, Try.ntmps34
    go_wp2_with fail
    refine HX2.out.mono ?_
    rintro e w1 ⟨rfl, hb⟩
    go_wp2_with fail
    refine (find_spec A cap L s _ (HA.out.below hb) hlen).mono ?_
    rintro e w2 ⟨rfl, rfl⟩
    go_wp2
    go_ret2
    exact ⟨rfl, hb⟩
  have hq : reachR L s = (anyEv (hitB L s), 0) := by rw [reachR, hv, if_pos rfl, if_neg hn]
  rw [hq]
  have hn0 : 0 ≤ findC L s := by omega
  clear hq hv HX hL hn
  go_enter Try.func34, Try.ntmps34
  go_wp2_with fail
  refine HX2.out.mono ?_
  rintro e w1 ⟨rfl, hb⟩
  go_wp2_with fail
  refine (find_spec A cap L s _ (HA.out.below hb) hlen).mono ?_
  rintro e w2 ⟨rfl, rfl⟩
  have HB := Lib.hid hb
  clear hb
  go_wp2
  go_loopw [7, 8, 9] (fun i _ _ wr => ∃ κ : Nat, κ ≤ 7 ∧ i = .int .i64 κ ∧ Hid (∀ κ' < κ, ∀ j < 8, hitB L s (evS (κ' : Nat) j) = false) ∧ Hid (Below w.heap.size w wr)) (fun i _ _ _ => 7 - (intOf i).toNat)
  case atStart => exact ⟨0, by omega, rfl, (by intro κ' h; omega), HB⟩
  case round =>
    clear HB
    obtain ⟨κ, hk, rfl, HP, HB⟩ := hrel
    by_cases hlt : κ < 7
    · have h6 : (κ : Int) ≤ 6 := by omega
      go_wp2
      go_loopw [8, 9] (fun i _ wr => ∃ j : Nat, j ≤ 8 ∧ i = .int .i64 j ∧ Hid (∀ j' < j, hitB L s (evS (κ : Nat) j') = false) ∧ Hid (Below w.heap.size w wr)) (fun i _ _ => 8 - (intOf i).toNat)
      case atStart => exact ⟨0, by omega, rfl, (by intro κ' h; omega), HB⟩
      case round =>
        clear HB
        obtain ⟨j, hj, rfl, HQ, HB⟩ := hrel
        by_cases hlt2 : j < 8
        · have B1 := HB.out.alloc HB.out.size (.cells #[.int .i64 0, .int .i64 (κ : Nat), .string ⟨#[]⟩, .int .i64 0, .bool (((j : Nat) : Int) % 2 == 1), .bool (((j : Nat) : Int) / 2 % 2 == 1), .bool (((j : Nat) : Int) / 4 == 1)] 34)
          have HB1 := Lib.hid B1
          have C1 := chain_spec A cap L (evS (κ : Nat) j) _ (HA.out.below B1) HR.out
          have HC1 := Lib.hid C1
          have h12 := chain_len HR.out (evS (κ : Nat) j)
          cases hh : hitB L s (evS (κ : Nat) j)
          · have hh2 := (has_hit (evS (κ : Nat) j) hn0).trans hh
            have HH := Lib.hid hh
            have HH2 := Lib.hid hh2
            clear C1 B1 hh hh2
            go_wp2_with fail
            refine HC1.out.mono ?_
            rintro e w2 ⟨A2, c2, rfl, ho, hb2⟩
            have HI := Lib.hid (Ints.At.of_own ho)
            have HB2 := Lib.hid (HB1.out.trans (hb2.mono HB1.out.size))
            clear ho hb2
            go_wp2_with fail
            refine (calls_b HH2.out (has_spec A2 c2 _ _ w2 HI.out (by rw [ints_len]; omega))).mono ?_
            rintro e w3 ⟨rfl, rfl⟩
            clear HI
            go_wp2
            go_roundw
            case rel =>
              refine ⟨j + 1, by omega, by go_num, ?_, HB2⟩
              intro j' hj'
              rcases Nat.lt_succ_iff_lt_or_eq.1 hj' with h | rfl
              · exact HQ.out j' h
              · exact HH.out
            case measure => simp [intOf]; omega
          · have hh2 := (has_hit (evS (κ : Nat) j) hn0).trans hh
            have HN : Hid (anyEv (hitB L s) = true) := any_hit hlt hlt2 hh
            have HH2 := Lib.hid hh2
            clear C1 B1 hh hh2
            go_wp2_with fail
            refine HC1.out.mono ?_
            rintro e w2 ⟨A2, c2, rfl, ho, hb2⟩
            have HI := Lib.hid (Ints.At.of_own ho)
            have HB2 := Lib.hid (HB1.out.trans (hb2.mono HB1.out.size))
            clear ho hb2
            go_wp2_with fail
            refine (calls_b HH2.out (has_spec A2 c2 _ _ w2 HI.out (by rw [ints_len]; omega))).mono ?_
            rintro e w3 ⟨rfl, rfl⟩
            clear HI
            go_wp2
            go_ret2
            exact ⟨by rw [HN.out]; rfl, HB2.out⟩
        · obtain rfl : j = 8 := by omega
          go_wp2
          go_roundw
          case rel =>
            refine ⟨κ + 1, by omega, by go_num, ?_, HB⟩
            intro κ' hκ' j' hj'
            rcases Nat.lt_succ_iff_lt_or_eq.1 hκ' with h | rfl
            · exact HP.out κ' h j' hj'
            · exact HQ.out j' hj'
          case measure => simp [intOf]; omega
    · obtain rfl : κ = 7 := by omega
      have HN : Hid (anyEv (hitB L s) = false) := any_none HP.out
      go_wp2
      go_ret2
      exact ⟨by rw [HN.out]; rfl, HB.out⟩

set_option maxHeartbeats 2000000 in
set_option maxRecDepth 100000 in
theorem reachClosure (e : Event) (g0 g1 : Nat) (b off cap : Nat) (L : List Clause) (s : ByteArray) (w : World) (h0 : w.cell? ⟨g0, 0, none⟩ = some (.slice (some ⟨b, off, none⟩) L.length cap)) (h1 : w.cell? ⟨g1, 0, none⟩ = some (.string s))
    (hL : Clause.At w (some ⟨b, off, none⟩) L) (R : Rule L) (hn : 0 ≤ findC L s) (hcap : L.length ≤ cap) (hcm : cap ≤ 9223372036854775807) :
    Calls Try.prog 85 #[e.val, .pointer (some ⟨g0, 0, none⟩), .pointer (some ⟨g1, 0, none⟩)] w fun e' w' => e' = .returned (.bool (hitB L s e)) ∧ Below w.heap.size w w' := by
  have B1 : Below w.heap.size w (w.alloc (.cells #[.int .i64 e.day, .int .i64 e.kind, .string e.interest, .int .i64 e.amount, .bool e.peril, .bool e.voluntary, .bool e.reasonable] 34)) := (Below.refl _ _).alloc (Nat.le_refl _) _
  have h12 := chain_len R e
  have HH := Lib.hid (hit_code R e s hn)
  have HR := Lib.hid R
  have HA := Lib.hid (hL.below B1)
  have q0 := made_cell w #[.int .i64 e.day, .int .i64 e.kind, .string e.interest, .int .i64 e.amount, .bool e.peril, .bool e.voluntary, .bool e.reasonable] 34 0 (.int .i64 e.day) rfl
  have q1 := made_cell w #[.int .i64 e.day, .int .i64 e.kind, .string e.interest, .int .i64 e.amount, .bool e.peril, .bool e.voluntary, .bool e.reasonable] 34 1 (.int .i64 e.kind) rfl
  have q2 := made_cell w #[.int .i64 e.day, .int .i64 e.kind, .string e.interest, .int .i64 e.amount, .bool e.peril, .bool e.voluntary, .bool e.reasonable] 34 2 (.string e.interest) rfl
  have q3 := made_cell w #[.int .i64 e.day, .int .i64 e.kind, .string e.interest, .int .i64 e.amount, .bool e.peril, .bool e.voluntary, .bool e.reasonable] 34 3 (.int .i64 e.amount) rfl
  have q4 := made_cell w #[.int .i64 e.day, .int .i64 e.kind, .string e.interest, .int .i64 e.amount, .bool e.peril, .bool e.voluntary, .bool e.reasonable] 34 4 (.bool e.peril) rfl
  have q5 := made_cell w #[.int .i64 e.day, .int .i64 e.kind, .string e.interest, .int .i64 e.amount, .bool e.peril, .bool e.voluntary, .bool e.reasonable] 34 5 (.bool e.voluntary) rfl
  have q6 := made_cell w #[.int .i64 e.day, .int .i64 e.kind, .string e.interest, .int .i64 e.amount, .bool e.peril, .bool e.voluntary, .bool e.reasonable] 34 6 (.bool e.reasonable) rfl
  have d0 := below_cell B1 h0
  have d1 := below_cell B1 h1
  have HB1 := Lib.hid B1
  have hfd : ∀ (r : Int) (A : Option Addr) (n c : Nat) (w : World), (Instr.field 53 (.agg #[.int .i64 r, .slice A n c]) 1).run Try.prog w = .ok (.slice A n c) w := fun _ _ _ _ _ => by kernel_rfl
  clear h0 h1 hL R B1
  go_enter Try.func85, Try.ntmps85
  go_wp2
  generalize w.alloc (.cells #[.int .i64 e.day, .int .i64 e.kind, .string e.interest, .int .i64 e.amount, .bool e.peril, .bool e.voluntary, .bool e.reasonable] 34) = W at d0 d1 q0 q1 q2 q3 q4 q5 q6 HA HB1 ⊢
  have R := Below.refl W.heap.size W
  have x1 := d1
  go_region_law (first | (go_simp; go_at_call 87; refine (decide_impl b off cap L e _ (by first | exact HA.out | exact HA.out.below R | exact HA.out.below R.drew) HR.out hcap hcm).mono ?_; rintro e' wd ⟨A, c, rfl, ho, hb⟩; have R := (by first | exact R.trans (hb.mono R.size) | exact (R.drew).trans (hb.mono R.size) : Below W.heap.size W wd); have hT := Texts.At.of_own ho; have d1 := below_cell R x1; clear hb ho) | (go_simp; go_at_call 86; refine (containsText _ _ (chainCodes L e) s _ (by first | exact hT) (by unfold chainCodes; rw [List.length_map]; omega)).mono ?_; rintro e' wd ⟨rfl, rfl⟩; clear hT))
  all_goals (
    have HB2 := Lib.hid (HB1.out.trans (R.mono HB1.out.size))
    clear R
    go_wp2
    go_ret
    exact ⟨ret_b HH.out, by first | exact HB2.out | exact HB2.out.drew⟩)

set_option maxHeartbeats 2000000 in
set_option maxRecDepth 100000 in
theorem IsReachable_impl (b off cap : Nat) (L : List Clause) (s : ByteArray) (w : World) (hL : Clause.At w (some ⟨b, off, none⟩) L) (hs : ∀ s ∈ L, s.tiny) (hlen : L.length ≤ 9223372036854775807) (hcap : L.length ≤ cap) (hcm : cap ≤ 9223372036854775807) :
    Calls Try.prog 35 #[.slice (some ⟨b, off, none⟩) L.length cap, .string s] w fun e' w' => e' = .returned (.tuple #[.bool (reachR L s).1, .int .i64 (reachR L s).2]) ∧ Below w.heap.size w w' := by
  have B1 : Below w.heap.size w ((w.alloc (.cells #[.slice (some ⟨b, off, none⟩) L.length cap] 42)).alloc (.cells #[.string s] 9)) := ((Below.refl _ _).alloc (Nat.le_refl _) _).alloc (by simp) _
  have d0 := below_cell ((Below.refl _ _).alloc (Nat.le_refl _) (.cells #[.string s] 9)) (made_cell w #[.slice (some ⟨b, off, none⟩) L.length cap] 42 0 (.slice (some ⟨b, off, none⟩) L.length cap) rfl)
  have d1 := made_cell (w.alloc (.cells #[.slice (some ⟨b, off, none⟩) L.length cap] 42)) #[.string s] 9 0 (.string s) rfl
  simp only [World.size_alloc] at d1
  have HA := Lib.hid hL
  have HX := FindClause_impl (some ⟨b, off, none⟩) cap L s _ (hL.below B1) hs hlen
  have HB1 := Lib.hid B1
  cases hv : isRulebook L
  · have hq : reachR L s = (false, 1) := by rw [reachR, hv]; rfl
    have hf : findR L s = (0, 1) := by rw [findR, hv]; rfl
    rw [hf] at HX
    have HX2 := Lib.hid HX
    rw [hq]
    clear hq hf hv HX hL B1
    go_enter Try.func35, Try.ntmps35
    go_wp2_with fail
    refine HX2.out.mono ?_
    rintro e w1 ⟨rfl, hb⟩
    have HB2 := Lib.hid (HB1.out.trans (hb.mono HB1.out.size))
    clear hb
    go_wp2
    go_ret2
    exact ⟨rfl, HB2.out⟩
  have HR := Lib.hid (rule_of hv)
  by_cases hn : findC L s < 0
  · have hq : reachR L s = (false, 4) := by rw [reachR, hv, if_pos rfl, if_pos hn]
    have hf : findR L s = (0, 4) := by rw [findR, hv, if_pos rfl, ixc, if_pos hn]
    rw [hf] at HX
    have HX2 := Lib.hid HX
    rw [hq]
    clear hq hf hv HX hL B1
    go_enter Try.func35, Try.ntmps35
    go_wp2_with fail
    refine HX2.out.mono ?_
    rintro e w1 ⟨rfl, hb⟩
    have HB2 := Lib.hid (HB1.out.trans (hb.mono HB1.out.size))
    clear hb
    go_wp2
    go_ret2
    exact ⟨rfl, HB2.out⟩
  have hn0 : 0 ≤ findC L s := by omega
  have hq : reachR L s = (anyEv (hitB L s), 0) := by rw [reachR, hv, if_pos rfl, if_neg hn]
  have hf : findR L s = (findC L s, 0) := by rw [findR, hv, if_pos rfl, ixc, if_neg hn]
  rw [hf] at HX
  have HX2 := Lib.hid HX
  have HPA := Lib.hid (plain_any (hitB L s))
  rw [hq]
  clear hq hf hv HX hL B1 hn
  go_enter Try.func35, Try.ntmps35
  go_wp2_with fail
  refine HX2.out.mono ?_
  rintro e w1 ⟨rfl, hb⟩
  have HB2 := Lib.hid (HB1.out.trans (hb.mono HB1.out.size))
  replace d0 := below_cell hb d0
  replace d1 := below_cell hb d1
  clear hb
  go_wp2_with fail
  refine (plainEvents_any _).mono ?_
  rintro e w2 ⟨A2, c2, rfl, ho, hb⟩
  have HB3 := Lib.hid (HB2.out.trans (hb.mono HB2.out.size))
  replace d0 := below_cell hb d0
  replace d1 := below_cell hb d1
  have HEV := Lib.hid (Event.At.of_own ho)
  have hpl : plainI.length = 56 := by rw [← plainTo_end, plainTo_len]
  have HPL := Lib.hid hpl
  clear hb ho hpl
  go_wp2_with fail
  refine (containsEvent 85 #[.pointer (some ⟨w.heap.size, 0, none⟩), .pointer (some ⟨w.heap.size + 1, 0, none⟩)] A2 c2 plainI (hitB L s) w2 HEV.out ⟨run_callFunc_enter Try.func85 (by kernel_rfl) (by kernel_rfl), fun w' hw x _ => reachClosure x _ _ b off cap L s w' (below_cell hw d0) (below_cell hw d1) (HA.out.below (HB3.out.trans (hw.mono HB3.out.size))) HR.out hn0 hcap hcm⟩ (by rw [HPL.out]; omega)).mono ?_
  rintro e w3 ⟨rfl, hb⟩
  have HB4 := Lib.hid (HB3.out.trans (hb.mono HB3.out.size))
  clear hb
  go_wp2
  go_ret2
  exact ⟨by rw [← HPA.out]; rfl, HB4.out⟩
end Go.Proofs.Ythhfhdekhgkcaaa
