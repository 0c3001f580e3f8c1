/-
  TotalsByResult on both sides.
-/
import Derived.Test.YthhfhdekhgkcaaaDecs
import Derived.Test.YthhfhdekhgkcaaaAdd
import Derived.StillTailTactics
namespace Go.Proofs.Ythhfhdekhgkcaaa
open Go.RowKit

theorem chainN_last {L : List Clause} (R : Rule L) (e : Event) : ∀ (n k : Nat), k < L.length → L.length ≤ n + k → ∃ i, (chainN L e n k).getLast? = some i ∧ ∃ h : i < L.length, L[i].result ≠ 3
  | 0, k, hk, hn => by omega
  | n + 1, k, hk, hn => by
    have hf := first_lt R e hk
    have hg := first_ge L e k
    by_cases h : L[firstN L e k].result = 3
    · obtain ⟨_, h2, h3⟩ := find_go R hf h
      obtain ⟨i, hi, hr⟩ := chainN_last R e n _ h3 (by omega)
      rw [chain_go R e hk h]
      refine ⟨i, ?_, hr⟩
      rw [List.getLast?_cons, hi]; rfl
    · rw [chain_end R e hk h]
      exact ⟨_, rfl, hf, h⟩
theorem chainRes_bd {L : List Clause} (R : Rule L) (e : Event) : 0 ≤ chainRes L e ∧ chainRes L e ≤ 2 := by
  obtain ⟨i, hi, hl, hr⟩ := chainN_last R e L.length 0 (by have := R.pos; omega) (by omega)
  have : chainRes L e = L[i].result := by rw [chainRes, chain, hi]; exact resAt_eq hl
  rw [this]
  have := Clause.ok_bd (R.ok _ (List.getElem_mem hl))
  omega
def resTot (L : List Clause) (E : List Event) : List Int := sumsBy (fun e => (chainRes L e).toNat) Event.amount (List.replicate 3 0) E
def resR (L : List Clause) (E : List Event) : List Int × Int := if isRulebook L && isLog E then (resTot L E, 0) else ([], 1)
theorem resTot_len (L : List Clause) (E : List Event) : (resTot L E).length = 3 := by rw [resTot, sums_len]; simp
theorem resR_len (L : List Clause) (E : List Event) : (resR L E).1.length ≤ 1048576 := by
  unfold resR; split
  · dsimp only; rw [resTot_len]; omega
  · simp
theorem resTot_bd {L : List Clause} {E : List Event} (h : ∀ e ∈ E, e.okB = true) : ∀ x ∈ resTot L E, 0 ≤ x ∧ x ≤ 1000000000 * E.length := by
  intro x hx
  have := sums_bd (fun e => (chainRes L e).toNat) Event.amount 1000000000 (by omega) E (List.replicate 3 0) 0 (fun e he => (Event.ok_bd (h e he)).2.2) (by omega) (rep_bd 3) x hx
  omega

set_option maxHeartbeats 4000000 in
set_option maxRecDepth 100000 in
theorem TotalsByResult_spec (A : Option Addr) (cap : Nat) (L : List Clause) (A2 : Option Addr) (cap2 : Nat) (E : List Event) (w : World) (hL : Clause.At w A L) (hE : Event.At w A2 E) (hs : ∀ s ∈ L, s.tiny) (hs2 : ∀ s ∈ E, s.tiny) (hlen : L.length ≤ 9223372036854775807) (hlen2 : E.length ≤ 9223372036854775807) :
    Calls Try.prog 58 #[.slice A L.length cap, .slice A2 E.length cap2] w (Ints.MadeC w (resR L E).1 (resR L E).2) := by
  have HA := Lib.hid hL
  have HE := Lib.hid hE.at_
  have HEA := Lib.hid hE
  have HX := isRulebook_spec A cap L w hL hs hlen
  cases hv : isRulebook L
  · have hq : resR L E = ([], 1) := by rw [resR, hv]; rfl
    rw [hv] at HX
    have HX2 := Lib.hid HX
    rw [hq]
    clear hq hv HX hL hE
    go_enter Try.func58, Try.ntmps58
    go_wp2_with fail
    refine HX2.out.mono ?_
    rintro e w1 ⟨rfl, hb⟩
    go_wp2
    go_ret2
    exact Ints.nilC hb
  rw [hv] at HX
  have HX2 := Lib.hid HX
  cases hv2 : isLog E
  · have hq : resR L E = ([], 1) := by rw [resR, hv, hv2]; rfl
    rw [hq]
    clear hq hv HX hL hE
    go_enter Try.func58, Try.ntmps58
    go_wp2_with fail
    refine HX2.out.mono ?_
    rintro e w1 ⟨rfl, hb⟩
    go_wp2_with fail
    refine (calls_b hv2 (isLog_spec A2 cap2 E w1 (HEA.out.below hb) hs2 hlen2)).mono ?_
    rintro e w2 ⟨rfl, hb2⟩
    have HB2 := Lib.hid (hb.trans (hb2.mono hb.size))
    clear hb hb2
    go_wp2
    go_ret2
    exact Ints.nilC HB2.out
  have HQ : Hid (resR L E = (resTot L E, 0)) := by unfold Hid; rw [resR, hv, hv2]; rfl
  have HR := Lib.hid (rule_of hv)
  have h15 := log_len hv2
  have HOK := Lib.hid (log_ok hv2)
  clear hv HX hL hE
  go_enter Try.func58, Try.ntmps58
  go_wp2_with fail
  refine HX2.out.mono ?_
  rintro e w1 ⟨rfl, hb⟩
  go_wp2_with fail
  refine (calls_b hv2 (isLog_spec A2 cap2 E w1 (HEA.out.below hb) hs2 hlen2)).mono ?_
  rintro e w2 ⟨rfl, hb2⟩
  have HB2 := Lib.hid (hb.trans (hb2.mono hb.size))
  have HO : Hid ((w2.alloc (.cells #[.int .i64 0, .int .i64 0, .int .i64 0] 2)).ownsRow w.heap.size 2 1 (.slice (some ⟨w2.heap.size, 0, none⟩) 3 3) 3 (Ints.flat (resTot L (E.take 0)))) := own_lit _ _ 3 HB2.out.size rfl (by unfold maxLen; omega)
  have hb0 := HB2.out.alloc HB2.out.size (.cells #[.int .i64 0, .int .i64 0, .int .i64 0] 2)
  obtain ⟨g, hg⟩ : ∃ g, g = w2.heap.size := ⟨_, rfl⟩
  have HG := Lib.hid hg
  rw [← hg] at HO
  clear hb hb2 hg
  go_wp2
  rw [← HG.out]
  go_loopw [7] (fun i wr => ∃ k : Nat, k ≤ E.length ∧ i = .int .i64 k ∧ Hid (wr.ownsRow w.heap.size 2 1 (.slice (some ⟨g, 0, none⟩) 3 3) 3 (Ints.flat (resTot L (E.take k)))) ∧ Below w.heap.size w wr) (fun i _ => E.length - (intOf i).toNat)
  case atStart => exact ⟨0, Nat.zero_le _, rfl, HO, hb0⟩
  case round =>
    clear HO hb0
    obtain ⟨k, hk, rfl, HW, hb⟩ := hrel
    by_cases hlt : k < E.length
    · obtain ⟨be, offe, hEA, hlbe, c0, c1, c2, c3, c4, c5, c6⟩ := HE.out k hlt
      subst hEA
      replace c0 := (hb.cell hlbe).trans c0
      replace c1 := (hb.cell hlbe).trans c1
      replace c2 := (hb.cell hlbe).trans c2
      replace c3 := (hb.cell hlbe).trans c3
      replace c4 := (hb.cell hlbe).trans c4
      replace c5 := (hb.cell hlbe).trans c5
      replace c6 := (hb.cell hlbe).trans c6
      obtain ⟨_, bm, ba⟩ := Event.ok_bd (HOK.out _ (List.getElem_mem hlt))
      obtain ⟨ba1, ba2⟩ := ba
      obtain ⟨m, hm⟩ : ∃ m : Nat, chainRes L E[k] = m := ⟨(chainRes L E[k]).toNat, by have := (chainRes_bd HR.out E[k]).1; omega⟩
      have hm3 : m < 3 := by have := (chainRes_bd HR.out E[k]).2; omega
      have hmi : (m : Int) < 3 := by omega
      have HT : Hid (resTot L (E.take (k + 1)) = addAt (resTot L (E.take k)) m E[k].amount) := by
        unfold Hid resTot; rw [sums_step _ _ _ E hlt]; simp only [hm]; rfl
      have hbd := resTot_bd (L := L) (E := E.take k) (fun e he => HOK.out e (List.mem_of_mem_take he))
      have hTl := resTot_len L (E.take k)
      rw [List.length_take, Nat.min_eq_left (Nat.le_of_lt hlt)] at hbd
      obtain ⟨T, hTT⟩ : ∃ T, T = resTot L (E.take k) := ⟨_, rfl⟩
      rw [← hTT] at hbd hTl HT
      have hown := HW.out
      rw [← hTT] at hown
      clear hTT HW bm
      have C1 := l10Result_any A cap L E[k] wr (HA.out.below hb) HR.out
      rw [hm] at C1
      have HC1 := Lib.hid C1
      have HMM := Lib.hid hm
      clear C1 hm hlbe
      go_wp2_with fail
      refine HC1.out.mono ?_
      rintro e w3 ⟨rfl, hb3⟩
      have HOW := Lib.hid (own_below hown hb3)
      have HBX := Lib.hid (hb.trans (hb3.mono hb.size))
      replace c3 := below_cell hb3 c3
      clear hb hb3 hown c0 c1 c2 c4 c5 c6
      go_wp2
      obtain ⟨X, hX, hat, hS⟩ := row_at E[k].amount hTl hm3 HOW.out
      obtain ⟨hx1, hx2⟩ := hbd X hX
      have HS := Lib.hid hS
      have fz := HOW.out.frozenAt
      clear hbd hX hS
      go_still_tail 13, (by kernel_rfl)
      change wpList _ _ _ _ _ w3.drew
      go_wp2
      have HN := row_set (v := X + E[k].amount) hTl hm3 (HOW.out.drew)
      go_roundw
      case rel =>
        refine ⟨k + 1, by omega, by go_num, ?_, HBX.out.drew.grown HN.2 (by simpa using HBX.out.size) (fun g' hg' => (HOW.out.lt g' hg').1)⟩
        have := HN.1
        rw [← HS.out, ← HT.out] at this
        exact Lib.hid this
      case measure => simp [intOf]; omega
    · obtain rfl : k = E.length := by omega
      have h0 := HW.out
      rw [List.take_length] at h0
      have H0 := Lib.hid h0
      clear h0
      go_wp2
      go_ret2
      refine ⟨some ⟨g, 0, none⟩, 3, ?_, ?_, hb⟩
      · rw [HQ.out]
        show _ = Ending.returned (.tuple #[.slice _ (resTot L E).length 3, .int .i64 0])
        rw [resTot_len]
        rfl
      · rw [HQ.out]
        show World.ownsRow _ w.heap.size 2 1 (.slice _ (resTot L E).length 3) (resTot L E).length (Ints.flat (resTot L E))
        rw [resTot_len]
        exact H0.out

set_option maxHeartbeats 4000000 in
set_option maxRecDepth 100000 in
theorem TotalsByResult_impl (b off cap : Nat) (L : List Clause) (A2 : Option Addr) (cap2 : Nat) (E : List Event) (w : World) (hL : Clause.At w (some ⟨b, off, none⟩) L) (hE : Event.At w A2 E) (hs : ∀ s ∈ L, s.tiny) (hs2 : ∀ s ∈ E, s.tiny) (hlen : L.length ≤ 9223372036854775807) (hlen2 : E.length ≤ 9223372036854775807) (hcap : L.length ≤ cap) (hcm : cap ≤ 9223372036854775807) :
    Calls Try.prog 59 #[.slice (some ⟨b, off, none⟩) L.length cap, .slice A2 E.length cap2] w (Ints.MadeC w (resR L E).1 (resR L E).2) := by
  have HX := DecideLog_impl b off cap L A2 cap2 E w hL hE hs hs2 hlen hlen2 hcap hcm
  have HE := Lib.hid hE.at_
  obtain ⟨i0, hi, hz0, hz1, hz2⟩ := info_parts Ints.info
  cases hv : isRulebook L && isLog E
  · have hq : resR L E = ([], 1) := by rw [resR, hv]; rfl
    have hd : decsR L E = ([], 1) := by rw [decsR, hv]; rfl
    rw [hd] at HX
    have HX2 := Lib.hid HX
    rw [hq]
    clear hq hv HX hL hE hd
    go_enter Try.func59, Try.ntmps59
    go_wp2_with fail
    refine HX2.out.mono ?_
    rintro e w1 ⟨B, c, rfl, ho, hb⟩
    clear ho
    go_wp2
    go_ret2
    exact Ints.nilC hb
  have hv1 : isRulebook L = true := by simp only [Bool.and_eq_true] at hv; exact hv.1
  have hv2 : isLog E = true := by simp only [Bool.and_eq_true] at hv; exact hv.2
  have HQ : Hid (resR L E = (resTot L E, 0)) := by unfold Hid; rw [resR, hv]; rfl
  have hd : decsR L E = (E.map (decOf L), 0) := by rw [decsR, hv]; rfl
  have HR := Lib.hid (rule_of hv1)
  have h15 := log_len hv2
  have HOK := Lib.hid (log_ok hv2)
  rw [hd] at HX
  obtain ⟨D, hDD⟩ : ∃ D, D = E.map (decOf L) := ⟨_, rfl⟩
  have hDl : D.length = E.length := by rw [hDD, List.length_map]
  have HDE : Hid (∀ k (h : k < D.length) (h' : k < E.length), D[k].1 = chainRes L E[k]) := by
    unfold Hid; intro k h h'; subst hDD; simp [decOf]
  rw [← hDD] at HX
  have h15d : D.length ≤ 15 := by omega
  have HX2 := Lib.hid HX
  have HDL := Lib.hid hDl
  have hz : (madeCells #[.int .i64 0] (3 * 1)).toList = Ints.flat (resTot L (E.take 0)) := made_flat Ints.cell 0 _ 1 3 (by omega) rfl rfl
  have HZ := Lib.hid hz
  clear hv hv1 hv2 HX hL hE hd hDD hDl hz
  go_enter Try.func59, Try.ntmps59
  go_wp2_with fail
  refine HX2.out.mono ?_
  rintro e w1 ⟨B, c, rfl, ho, hb⟩
  have HDA := Lib.hid ho.at_
  have HB1 := Lib.hid hb
  have hsz := hb.size
  clear ho hb HX2
  go_wp2_with (at_make; refine wpList_make_full _ rfl _ _ 73 rfl w1.heap.size 2 i0 _ 1 Try.underlying73 hi hz0 hz1 .i64 .i64 _ _ 3 rfl rfl rfl rfl ?c1 ?c2 ?c3 ?_)
  case c1 => rw [hz2]; omega
  case c2 => unfold maxLen; omega
  case c3 => omega
  intro w2 hown hgr
  have hb0 := HB1.out.grown hgr hsz (by simp)
  have hbd1 : Below w1.heap.size w1 w2 := (Below.refl _ _).grown hgr (Nat.le_refl _) (by simp)
  rw [HZ.out] at hown
  have HO := Lib.hid (own_base hown hsz)
  have HD2 := Lib.hid (HDA.out.below hbd1)
  have HOG := Lib.hid hown
  have hbs : Below w1.heap.size w2 w2 := Below.refl _ _
  have HBS := Lib.hid hbs
  have HDB : Hid (∀ W, Below w1.heap.size w2 W → DecsAt W B D) := fun W hW => HDA.out.below ⟨hW.os.trans hbd1.os, hW.tape.trans hbd1.tape, hW.output.trans hbd1.output, Nat.le_trans hbd1.size hW.size, fun i hi => (hW.block i hi).trans (hbd1.block i hi)⟩
  have HBW : Hid (∀ W, Below w1.heap.size w2 W → Below w.heap.size w W) := fun W hW => hb0.trans (hW.mono hsz)
  obtain ⟨g, hg⟩ : ∃ g, g = w1.heap.size := ⟨_, rfl⟩
  rw [← hg] at HOG HBS HDB HBW ⊢
  have HWG : Hid (w.heap.size ≤ g) := by unfold Hid; omega
  clear hown hgr hsz hbs hbd1 HDA HD2 hb0 HO hg
  go_wp2
  go_loopw [23] (fun i wr => ∃ k : Nat, k ≤ D.length ∧ i = .int .i64 k ∧ Hid (wr.ownsRow g 2 1 (.slice (some ⟨g, 0, none⟩) 3 3) 3 (Ints.flat (resTot L (E.take k)))) ∧ Below g w2 wr) (fun i _ => D.length - (intOf i).toNat)
  case atStart => exact ⟨0, Nat.zero_le _, rfl, HOG, HBS.out⟩
  case round =>
    clear HOG HBS
    obtain ⟨k, hk, rfl, HW, hb⟩ := hrel
    by_cases hltd : k < D.length
    · have hlt : k < E.length := by have := HDL.out; omega
      obtain ⟨be, offe, hEA, hlbe, c0, c1, c2, c3, c4, c5, c6⟩ := HE.out k hlt
      subst hEA
      replace c3 := ((HBW.out wr hb).cell hlbe).trans c3
      obtain ⟨b1, off1, Ak, ck, rfl, hlb1, r0, r1, _⟩ := (HDB.out wr hb) k hltd
      obtain ⟨_, bm, ba⟩ := Event.ok_bd (HOK.out _ (List.getElem_mem hlt))
      obtain ⟨ba1, ba2⟩ := ba
      obtain ⟨m, hm⟩ : ∃ m : Nat, chainRes L E[k] = m := ⟨(chainRes L E[k]).toNat, by have := (chainRes_bd HR.out E[k]).1; omega⟩
      have hm3 : m < 3 := by have := (chainRes_bd HR.out E[k]).2; omega
      have hmi : (m : Int) < 3 := by omega
      have HT : Hid (resTot L (E.take (k + 1)) = addAt (resTot L (E.take k)) m E[k].amount) := by
        unfold Hid resTot; rw [sums_step _ _ _ E hlt]; simp only [hm]; rfl
      have hbd := resTot_bd (L := L) (E := E.take k) (fun e he => HOK.out e (List.mem_of_mem_take he))
      have hTl := resTot_len L (E.take k)
      rw [List.length_take, Nat.min_eq_left (Nat.le_of_lt hlt)] at hbd
      obtain ⟨T, hTT⟩ : ∃ T, T = resTot L (E.take k) := ⟨_, rfl⟩
      rw [← hTT] at hbd hTl HT
      have hown := HW.out
      rw [← hTT] at hown
      clear hTT HW bm
      rw [HDE.out k hltd hlt, hm] at r0
      have HMM := Lib.hid hm
      have B1 : Below wr.heap.size wr (wr.alloc (.cells #[.int .i64 (m : Nat), .slice Ak D[k].2.length ck] 53)) := (Below.refl _ _).alloc (Nat.le_refl _) _
      have z0 := made_cell wr #[.int .i64 (m : Nat), .slice Ak D[k].2.length ck] 53 0 (.int .i64 (m : Nat)) rfl
      have HOW := Lib.hid (own_below hown B1)
      have y3 := below_cell B1 c3
      have hgs : g ≤ wr.heap.size := by have := hown.lt g rfl; omega
      have HBX := Lib.hid (hb.trans (B1.mono hgs))
      clear hm hlbe hb hown B1 hgs hlb1 c0 c1 c2 c4 c5 c6
      go_wp2
      generalize wr.alloc (.cells #[.int .i64 (m : Nat), .slice Ak D[k].2.length ck] 53) = W2 at z0 y3 HOW HBX ⊢
      obtain ⟨X, hX, hat, hS⟩ := row_at E[k].amount hTl hm3 HOW.out
      obtain ⟨hx1, hx2⟩ := hbd X hX
      have HS := Lib.hid hS
      have fz := HOW.out.frozenAt
      clear hbd hX hS
      go_still_tail 12, (by kernel_rfl)
      change wpList _ _ _ _ _ W2.drew
      go_wp2
      have HN := row_set (v := X + E[k].amount) hTl hm3 (HOW.out.drew)
      go_roundw
      case rel =>
        refine ⟨k + 1, by omega, by go_num, ?_, HBX.out.drew.grown HN.2 (by have := HOW.out.lt g rfl; simp; omega) (fun g' hg' => (HOW.out.lt g' hg').1)⟩
        have := HN.1
        rw [← HS.out, ← HT.out] at this
        exact Lib.hid this
      case measure => simp [intOf]; omega
    · obtain rfl : k = D.length := by omega
      have h0 := HW.out
      rw [HDL.out, List.take_length] at h0
      have H0 := Lib.hid h0
      clear h0
      go_wp2
      go_ret2
      refine ⟨some ⟨g, 0, none⟩, 3, ?_, ?_, HBW.out _ hb⟩
      · rw [HQ.out]
        show _ = Ending.returned (.tuple #[.slice _ (resTot L E).length 3, .int .i64 0])
        rw [resTot_len]
        rfl
      · rw [HQ.out]
        show World.ownsRow _ w.heap.size 2 1 (.slice _ (resTot L E).length 3) (resTot L E).length (Ints.flat (resTot L E))
        rw [resTot_len]
        exact own_base H0.out HWG.out
end Go.Proofs.Ythhfhdekhgkcaaa
