/-
  CountUses on both sides.
-/
import Derived.Test.YthhfhdekhgkcaaaDecs
import Derived.Test.YthhfhdekhgkcaaaAdd
namespace Go.Proofs.Ythhfhdekhgkcaaa
open Go.RowKit

def addAll (T : List Int) (C : List Nat) : List Int := sumsBy (fun i : Nat => i) (fun _ => 1) T C
def usesTot (L : List Clause) (E : List Event) : List Int := E.foldl (fun T e => addAll T (chain L e)) (List.replicate L.length 0)
def usesR (L : List Clause) (E : List Event) : List Int × Int := if isRulebook L && isLog E then (usesTot L E, 0) else ([], 1)
theorem addAll_len (T : List Int) (C : List Nat) : (addAll T C).length = T.length := sums_len _ _ C T
theorem addAll_step (T : List Int) (C : List Nat) {j f : Nat} (h : C[j]? = some f) : addAll T (C.take (j + 1)) = addAt (addAll T (C.take j)) f 1 := by
  obtain ⟨hj, hf⟩ := List.getElem?_eq_some_iff.1 h
  unfold addAll
  rw [sums_step _ _ T C hj, hf]
theorem addAll_bd {T : List Int} {b : Int} (C : List Nat) (hb : 0 ≤ b) (hT : ∀ x ∈ T, 0 ≤ x ∧ x ≤ b) : ∀ x ∈ addAll T C, 0 ≤ x ∧ x ≤ b + C.length := by
  intro x hx
  have := sums_bd (fun i : Nat => i) (fun _ => 1) 1 (by omega) C T b (fun _ _ => by omega) hb hT x hx
  omega
theorem uses_len (L : List Clause) (E : List Event) : (usesTot L E).length = L.length := by
  have : ∀ (M : List Event) (T : List Int), (M.foldl (fun T e => addAll T (chain L e)) T).length = T.length := by
    intro M
    induction M with
    | nil => intro T; rfl
    | cons e M ih => intro T; rw [List.foldl_cons, ih, addAll_len]
  rw [usesTot, this]; simp
theorem uses_step (L : List Clause) (E : List Event) {k : Nat} (h : k < E.length) : usesTot L (E.take (k + 1)) = addAll (usesTot L (E.take k)) (chain L E[k]) := by
  rw [List.take_succ_eq_append_getElem h, usesTot, List.foldl_append]; rfl
theorem uses_bd {L : List Clause} (R : Rule L) : ∀ (E : List Event), ∀ x ∈ usesTot L E, 0 ≤ x ∧ x ≤ 12 * E.length := by
  have key : ∀ (M : List Event) (T : List Int) (b : Int), 0 ≤ b → (∀ x ∈ T, 0 ≤ x ∧ x ≤ b) → ∀ x ∈ M.foldl (fun T e => addAll T (chain L e)) T, 0 ≤ x ∧ x ≤ b + 12 * M.length := by
    intro M
    induction M with
    | nil => intro T b _ hT x hx; have := hT x hx; simp; omega
    | cons e M ih =>
      intro T b hb hT x hx
      have hc := chain_len R e
      have h1 := addAll_bd (chain L e) hb hT
      have := ih (addAll T (chain L e)) (b + 12) (by omega) (fun y hy => by have := h1 y hy; omega) x hx
      rw [List.length_cons]
      omega
  intro E x hx
  have := key E (List.replicate L.length 0) 0 (by omega) (rep_bd _) x hx
  omega
theorem usesR_len (L : List Clause) (E : List Event) : (usesR L E).1.length ≤ 1048576 := by
  unfold usesR; split
  · rename_i h
    simp only [Bool.and_eq_true] at h
    have := (rule_of h.1).le
    dsimp only; rw [uses_len]; omega
  · simp
theorem made_zero (n : Nat) : (madeCells #[.int .i64 0] n).toList = Ints.flat (List.replicate n 0) := by
  have := made_flat Ints.cell 0 #[.int .i64 0] 1 n (by omega) rfl rfl
  rwa [Nat.mul_one] at this
theorem grown_cell {w w' : World} {g : Nat} {a : Addr} {v : Value} (hg : w.grownBy w' (some g)) (hc : w.cell? a = some v) (h : a.block ≠ g) : w'.cell? a = some v := hg.cell hc (fun e => h (by injection e))

set_option maxHeartbeats 4000000 in
set_option maxRecDepth 100000 in
theorem CountUses_spec (A : Option Addr) (cap : Nat) (L : List Clause) (A2 : Option Addr) (cap2 : Nat) (E : List Event) (w : World) (hL : Clause.At w A L) (hE : Event.At w A2 E) (hs : ∀ s ∈ L, s.tiny) (hs2 : ∀ s ∈ E, s.tiny) (hlen : L.length ≤ 9223372036854775807) (hlen2 : E.length ≤ 9223372036854775807) :
    Calls Try.prog 53 #[.slice A L.length cap, .slice A2 E.length cap2] w (Ints.MadeC w (usesR L E).1 (usesR L E).2) := by
  have HA := Lib.hid hL
  have HE := Lib.hid hE.at_
  have HEA := Lib.hid hE
  have HX := isRulebook_spec A cap L w hL hs hlen
  cases hv : isRulebook L
  · have hq : usesR L E = ([], 1) := by rw [usesR, hv]; rfl
    rw [hv] at HX
    have HX2 := Lib.hid HX
    rw [hq]
    clear hq hv HX hL hE
    go_enter Try.func53, Try.ntmps53
    go_wp2_with fail
    refine HX2.out.mono ?_
    rintro e w1 ⟨rfl, hb⟩
    go_wp2
    go_ret2
    exact Ints.nilC hb
  rw [hv] at HX
  have HX2 := Lib.hid HX
  cases hv2 : isLog E
  · have hq : usesR L E = ([], 1) := by rw [usesR, hv, hv2]; rfl
    rw [hq]
    clear hq hv HX hL hE
    go_enter Try.func53, Try.ntmps53
    go_wp2_with fail
    refine HX2.out.mono ?_
    rintro e w1 ⟨rfl, hb⟩
    go_wp2_with fail
    refine (calls_b hv2 (isLog_spec A2 cap2 E w1 (HEA.out.below hb) hs2 hlen2)).mono ?_
    rintro e w2 ⟨rfl, hb2⟩
    have HB2 := Lib.hid (hb.trans (hb2.mono hb.size))
    clear hb hb2
    go_wp2
    go_ret2
    exact Ints.nilC HB2.out
  have HQ : Hid (usesR L E = (usesTot L E, 0)) := by unfold Hid; rw [usesR, hv, hv2]; rfl
  have HR := Lib.hid (rule_of hv)
  have h15 := log_len hv2
  have hle := HR.out.le
  obtain ⟨i0, hi, hz0, hz1, hz2⟩ := info_parts Ints.info
  have HZ : Hid ((madeCells #[.int .i64 0] L.length).toList = Ints.flat (usesTot L (E.take 0))) := made_zero L.length
  clear hv HX hL hE
  go_enter Try.func53, Try.ntmps53
  go_wp2_with fail
  refine HX2.out.mono ?_
  rintro e w1 ⟨rfl, hb⟩
  go_wp2_with fail
  refine (calls_b hv2 (isLog_spec A2 cap2 E w1 (HEA.out.below hb) hs2 hlen2)).mono ?_
  rintro e w2 ⟨rfl, hb2⟩
  have HB2 := Lib.hid (hb.trans (hb2.mono hb.size))
  have hsz := HB2.out.size
  clear hb hb2
  go_wp2_with (at_make; refine wpList_make_full _ rfl _ _ 73 rfl w2.heap.size 2 i0 _ 1 Try.underlying73 hi hz0 hz1 .i64 .i64 _ _ L.length rfl rfl rfl rfl ?c1 ?c2 ?c3 ?_)
  case c1 => rw [hz2]; omega
  case c2 => unfold maxLen; omega
  case c3 => omega
  intro w4 hown hgr
  have hb0 := HB2.out.grown hgr hsz (by simp)
  rw [HZ.out] at hown
  have HO := Lib.hid (own_base hown hsz)
  generalize w2.heap.size = g at HO ⊢
  clear hown hgr hsz
  go_wp2
  go_loopw [7] (fun i wr => ∃ k : Nat, k ≤ E.length ∧ i = .int .i64 k ∧ Hid (wr.ownsRow w.heap.size 2 1 (.slice (some ⟨g, 0, none⟩) L.length L.length) L.length (Ints.flat (usesTot L (E.take k)))) ∧ Hid (Below w.heap.size w wr)) (fun i _ => E.length - (intOf i).toNat)
  case atStart => exact ⟨0, Nat.zero_le _, rfl, HO, hb0⟩
  case round =>
    clear HO hb0
    obtain ⟨k, hk, rfl, HW, HB⟩ := hrel
    by_cases hlt : k < E.length
    · obtain ⟨be, offe, hEA, hlbe, c0, c1, c2, c3, c4, c5, c6⟩ := HE.out k hlt
      subst hEA
      replace c0 := (HB.out.cell hlbe).trans c0
      replace c1 := (HB.out.cell hlbe).trans c1
      replace c2 := (HB.out.cell hlbe).trans c2
      replace c3 := (HB.out.cell hlbe).trans c3
      replace c4 := (HB.out.cell hlbe).trans c4
      replace c5 := (HB.out.cell hlbe).trans c5
      replace c6 := (HB.out.cell hlbe).trans c6
      have C1 := chain_spec2 A cap L E[k] wr (HA.out.below HB.out) HR.out
      have hc2 := chain_len HR.out E[k]
      have HCM := Lib.hid (chain_mem HR.out E[k])
      have HT : Hid (usesTot L (E.take (k + 1)) = addAll (usesTot L (E.take k)) (chain L E[k])) := uses_step L E hlt
      have hbd := uses_bd HR.out (E.take k)
      have hTl := uses_len L (E.take k)
      rw [List.length_take, Nat.min_eq_left (Nat.le_of_lt hlt)] at hbd
      obtain ⟨T, hTT⟩ : ∃ T, T = usesTot L (E.take k) := ⟨_, rfl⟩
      have hown := HW.out
      rw [← hTT] at hown hbd hTl HT
      obtain ⟨C, hC⟩ : ∃ C, C = chain L E[k] := ⟨_, rfl⟩
      rw [← hC] at C1 hc2 HCM HT
      have HC1 := Lib.hid C1
      have HBD := Lib.hid hbd
      clear C1 hlbe hTT HW hC hbd
      go_wp2_with fail
      refine HC1.out.mono ?_
      rintro e w3 ⟨gc, offc, cc, rfl, hg1, hg2, HI, hb3⟩
      have H3 := Lib.hid (own_below hown hb3)
      have HB3 := Lib.hid (HB.out.trans (hb3.mono HB.out.size))
      have hgne : ¬ gc = g := by have := (hown.lt g rfl).2; omega
      have HGN := Lib.hid hgne
      have hgb := (H3.out.lt g rfl).1
      clear hb3 hown hgne c0 c1 c2 c3 c4 c5 c6
      go_wp2
      go_loopw [9] (fun i wr => ∃ j : Nat, j ≤ C.length ∧ i = .int .i64 j ∧ Hid (wr.ownsRow w.heap.size 2 1 (.slice (some ⟨g, 0, none⟩) L.length L.length) L.length (Ints.flat (addAll T (C.take j)))) ∧ Hid (w3.grownBy wr (some g))) (fun i _ => C.length - (intOf i).toNat)
      case atStart => exact ⟨0, Nat.zero_le _, rfl, H3, Lib.hid (World.grownBy.refl _ _)⟩
      case round =>
        clear H3
        obtain ⟨j, hj, rfl, HW, HG⟩ := hrel
        by_cases hlt2 : j < C.length
        · obtain ⟨f, hf⟩ : ∃ f, C[j]? = some f := ⟨C[j], List.getElem?_eq_getElem _⟩
          have hci := grown_cell HG.out (HI.out j f hf) HGN.out
          have hfl : f < L.length := HCM.out f (List.mem_of_getElem? hf)
          have HST : Hid (addAll T (C.take (j + 1)) = addAt (addAll T (C.take j)) f 1) := addAll_step T C hf
          obtain ⟨X, hX, hat, hS⟩ := row_at 1 (by rw [addAll_len]; exact hTl) hfl HW.out
          obtain ⟨hx1, hx2⟩ := addAll_bd (C.take j) (by omega) HBD.out X hX
          rw [List.length_take, Nat.min_eq_left (Nat.le_of_lt hlt2)] at hx2
          have HS := Lib.hid hS
          have fz := HW.out.frozenAt
          have HTL : Hid ((addAll T (C.take j)).length = L.length) := by unfold Hid; rw [addAll_len]; exact hTl
          clear hX hS hf
          go_wp2
          have HN := row_set (v := X + 1) HTL.out hfl HW.out
          go_roundw
          case rel =>
            refine ⟨j + 1, by omega, by go_num, ?_, Lib.hid (grown_tr HG.out HN.2)⟩
            have := HN.1
            rw [← HS.out, ← HST.out] at this
            exact Lib.hid this
          case measure => simp [intOf]; omega
        · obtain rfl : j = C.length := by omega
          have h0 := HW.out
          rw [List.take_length, ← HT.out] at h0
          have H0 := Lib.hid h0
          have HBX := Lib.hid (HB3.out.grown HG.out HB3.out.size (fun g' hg' => by injection hg' with e; omega))
          clear h0
          go_wp2
          go_roundw
          case rel => exact ⟨k + 1, by omega, by go_num, H0, HBX⟩
          case measure => simp [intOf]; omega
    · obtain rfl : k = E.length := by omega
      have h0 := HW.out
      rw [List.take_length] at h0
      have H0 := Lib.hid h0
      clear h0
      go_wp2
      go_ret2
      refine ⟨some ⟨g, 0, none⟩, L.length, ?_, ?_, HB.out⟩
      · rw [HQ.out]
        show _ = Ending.returned (.tuple #[.slice _ (usesTot L E).length L.length, .int .i64 0])
        rw [uses_len]
        rfl
      · rw [HQ.out]
        show World.ownsRow _ w.heap.size 2 1 (.slice _ (usesTot L E).length L.length) (usesTot L E).length (Ints.flat (usesTot L E))
        rw [uses_len]
        exact H0.out

set_option maxHeartbeats 8000000 in
set_option maxRecDepth 100000 in
theorem CountUses_impl (b off cap : Nat) (L : List Clause) (A2 : Option Addr) (cap2 : Nat) (E : List Event) (w : World) (hL : Clause.At w (some ⟨b, off, none⟩) L) (hE : Event.At w A2 E) (hs : ∀ s ∈ L, s.tiny) (hs2 : ∀ s ∈ E, s.tiny) (hlen : L.length ≤ 9223372036854775807) (hlen2 : E.length ≤ 9223372036854775807) (hcap : L.length ≤ cap) (hcm : cap ≤ 9223372036854775807) :
    Calls Try.prog 54 #[.slice (some ⟨b, off, none⟩) L.length cap, .slice A2 E.length cap2] w (Ints.MadeC w (usesR L E).1 (usesR L E).2) := by
  have HX := DecideLog_impl b off cap L A2 cap2 E w hL hE hs hs2 hlen hlen2 hcap hcm
  have HA := Lib.hid hL
  obtain ⟨i0, hi, hz0, hz1, hz2⟩ := info_parts Ints.info
  cases hv : isRulebook L && isLog E
  · have hq : usesR L E = ([], 1) := by rw [usesR, hv]; rfl
    have hd : decsR L E = ([], 1) := by rw [decsR, hv]; rfl
    rw [hd] at HX
    have HX2 := Lib.hid HX
    rw [hq]
    clear hq hv HX hL hE hd
    go_enter Try.func54, Try.ntmps54
    go_wp2_with fail
    refine HX2.out.mono ?_
    rintro e w1 ⟨B, c, rfl, ho, hb⟩
    clear ho
    go_wp2
    go_ret2
    exact Ints.nilC hb
  have hv1 : isRulebook L = true := by simp only [Bool.and_eq_true] at hv; exact hv.1
  have hv2 : isLog E = true := by simp only [Bool.and_eq_true] at hv; exact hv.2
  have HQ : Hid (usesR L E = (usesTot L E, 0)) := by unfold Hid; rw [usesR, hv]; rfl
  have hd : decsR L E = (E.map (decOf L), 0) := by rw [decsR, hv]; rfl
  have HR := Lib.hid (rule_of hv1)
  have hle := HR.out.le
  have h15 := log_len hv2
  rw [hd] at HX
  obtain ⟨D, hDD⟩ : ∃ D, D = E.map (decOf L) := ⟨_, rfl⟩
  have hDl : D.length = E.length := by rw [hDD, List.length_map]
  have HDE : Hid (∀ k (h : k < D.length) (h' : k < E.length), D[k].2 = (chain L E[k]).map (codeAt L)) := by
    unfold Hid; intro k h h'; subst hDD; simp [decOf, chainCodes]
  rw [← hDD] at HX
  have h15d : D.length ≤ 15 := by omega
  have HX2 := Lib.hid HX
  have HDL := Lib.hid hDl
  have HZ : Hid ((madeCells #[.int .i64 0] L.length).toList = Ints.flat (usesTot L (E.take 0))) := made_zero L.length
  clear hv hv1 hv2 HX hL hE hd hDD hDl
  go_enter Try.func54, Try.ntmps54
  go_wp2_with fail
  refine HX2.out.mono ?_
  rintro e w1 ⟨B, c, rfl, ho, hb⟩
  have HDA := Lib.hid ho.at_
  have HB1 := Lib.hid hb
  have hsz := hb.size
  clear ho hb HX2
  go_wp2_with (at_make; refine wpList_make_full _ rfl _ _ 73 rfl w1.heap.size 2 i0 _ 1 Try.underlying73 hi hz0 hz1 .i64 .i64 _ _ L.length rfl rfl rfl rfl ?c1 ?c2 ?c3 ?_)
  case c1 => rw [hz2]; omega
  case c2 => unfold maxLen; omega
  case c3 => omega
  intro w2 hown hgr
  have hb0 := HB1.out.grown hgr hsz (by simp)
  have hbd1 : Below w1.heap.size w1 w2 := (Below.refl _ _).grown hgr (Nat.le_refl _) (by simp)
  rw [HZ.out] at hown
  have HOG := Lib.hid hown
  have HBS : Hid (Below w1.heap.size w2 w2) := Below.refl _ _
  have HDB : Hid (∀ W, Below w1.heap.size w2 W → DecsAt W B D) := fun W hW => HDA.out.below ⟨hW.os.trans hbd1.os, hW.tape.trans hbd1.tape, hW.output.trans hbd1.output, Nat.le_trans hbd1.size hW.size, fun i hi => (hW.block i hi).trans (hbd1.block i hi)⟩
  have HBW : Hid (∀ W, Below w1.heap.size w2 W → Below w.heap.size w W) := fun W hW => hb0.trans (hW.mono hsz)
  obtain ⟨g, hg⟩ : ∃ g, g = w1.heap.size := ⟨_, rfl⟩
  have HWG : Hid (w.heap.size ≤ g) := by unfold Hid; omega
  rw [← hg] at HOG HBS HDB HBW ⊢
  have HD0 : Hid (∀ W, Below g w2 W → ∀ k (hk : k < D.length), ∃ bc offc cc, ∃ b2 off2, B = some ⟨b2, off2, none⟩ ∧ b2 < W.heap.size ∧ b2 < g ∧ bc < g ∧ W.cell? ⟨b2, off2 + k * 2, none⟩ = some (.int .i64 D[k].1) ∧ W.cell? ⟨b2, off2 + k * 2 + 1, none⟩ = some (.slice (some ⟨bc, offc, none⟩) D[k].2.length cc) ∧ ∀ j (hj : j < D[k].2.length), W.cell? ⟨bc, offc + j, none⟩ = some (.string D[k].2[j])) := by
    unfold Hid
    intro W hW k hk
    obtain ⟨b1, off1, Ak, ck, e1, hlb1, r0, r1, r2⟩ := HDA.out k hk
    have hbl : Below g w1 W := ⟨hW.os.trans hbd1.os, hW.tape.trans hbd1.tape, hW.output.trans hbd1.output, Nat.le_trans hbd1.size hW.size, fun i hi => (hW.block i hi).trans (hbd1.block i (by omega))⟩
    have hkE : k < E.length := by have := HDL.out; omega
    have hpos : 0 < D[k].2.length := by rw [HDE.out k hk hkE, List.length_map]; exact chain_pos HR.out _
    obtain ⟨bc, offc, rfl, hbc, _⟩ := r2.at_ 0 hpos
    refine ⟨bc, offc, ck, b1, off1, e1, by have := hW.size; have := hbd1.size; omega, by omega, by omega, (hbl.cell (by show b1 < g; omega)).trans r0, (hbl.cell (by show b1 < g; omega)).trans r1, fun j hj => ?_⟩
    obtain ⟨bc', offc', e2, _, hc⟩ := r2.at_ j hj
    injection e2 with e2
    injection e2 with e3 e4
    subst e3; subst e4
    exact (hbl.cell (by show bc < g; omega)).trans hc
  clear hown hgr hsz hbd1 HDA hb0 hg HDB
  go_wp2
  go_loopw [27] (fun i wr => ∃ k : Nat, k ≤ D.length ∧ i = .int .i64 k ∧ Hid (wr.ownsRow g 2 1 (.slice (some ⟨g, 0, none⟩) L.length L.length) L.length (Ints.flat (usesTot L (E.take k)))) ∧ Hid (Below g w2 wr)) (fun i _ => D.length - (intOf i).toNat)
  case atStart => exact ⟨0, Nat.zero_le _, rfl, HOG, HBS⟩
  case round =>
    clear HOG HBS
    obtain ⟨k, hk, rfl, HW, HB⟩ := hrel
    by_cases hltd : k < D.length
    · have hlt : k < E.length := by have := HDL.out; omega
      obtain ⟨bc, offc, ck, b1, off1, rfl, hlb1, hb1g, hbcg, r0, r1, r2⟩ := (HD0.out wr HB.out) k hltd
      have hc2 := chain_len HR.out E[k]
      have HCM := Lib.hid (chain_mem HR.out E[k])
      have HT : Hid (usesTot L (E.take (k + 1)) = addAll (usesTot L (E.take k)) (chain L E[k])) := uses_step L E hlt
      have hbd := uses_bd HR.out (E.take k)
      have hTl := uses_len L (E.take k)
      have HDK := Lib.hid (HDE.out k hltd hlt)
      rw [List.length_take, Nat.min_eq_left (Nat.le_of_lt hlt)] at hbd
      obtain ⟨T, hTT⟩ : ∃ T, T = usesTot L (E.take k) := ⟨_, rfl⟩
      have hown := HW.out
      rw [← hTT] at hown hbd hTl HT
      obtain ⟨C, hC⟩ : ∃ C, C = chain L E[k] := ⟨_, rfl⟩
      rw [← hC] at hc2 HCM HT HDK
      obtain ⟨M, hM⟩ : ∃ M, M = D[k].2 := ⟨_, rfl⟩
      rw [← hM] at r1 r2 HDK
      have hMl : M.length = C.length := by rw [HDK.out, List.length_map]
      have HMC : Hid (∀ j f (hj : j < M.length), C[j]? = some f → f < L.length → ∀ hf : f < L.length, M[j] = L[f].code) := by
        unfold Hid; intro j f hj hcf _ hf
        have h1 : M[j]? = some (codeAt L f) := by rw [HDK.out, List.getElem?_map, hcf]; rfl
        rw [List.getElem?_eq_getElem hj] at h1
        injection h1 with h1
        rw [h1, codeAt_eq hf]
      have HM2 := Lib.hid r2
      have HBD := Lib.hid hbd
      have B1 : Below wr.heap.size wr (wr.alloc (.cells #[.int .i64 D[k].1, .slice (some ⟨bc, offc, none⟩) M.length ck] 53)) := (Below.refl _ _).alloc (Nat.le_refl _) _
      have z1 := made_cell wr #[.int .i64 D[k].1, .slice (some ⟨bc, offc, none⟩) M.length ck] 53 1 (.slice (some ⟨bc, offc, none⟩) M.length ck) rfl
      have hgs := (hown.lt g rfl).2
      have H3 := Lib.hid (own_below hown B1)
      have HB3 := Lib.hid (HB.out.trans (B1.mono (by omega)))
      have HGR : Hid (wr.grownBy (wr.alloc (.cells #[.int .i64 D[k].1, .slice (some ⟨bc, offc, none⟩) M.length ck] 53)) (some g)) := grown_below B1
      have HGS := Lib.hid hgs
      have HMLH := Lib.hid hMl
      clear hTT HW hC hbd B1 hM r2 hown hgs hMl
      go_wp2
      go_loopw [34] (fun i wx => ∃ j : Nat, j ≤ M.length ∧ i = .int .i64 j ∧ Hid (wx.ownsRow g 2 1 (.slice (some ⟨g, 0, none⟩) L.length L.length) L.length (Ints.flat (addAll T (C.take j)))) ∧ Hid (wr.grownBy wx (some g))) (fun i _ => M.length - (intOf i).toNat)
      case atStart => exact ⟨0, Nat.zero_le _, rfl, H3, HGR⟩
      case round =>
        clear H3 HGR
        obtain ⟨j, hj, rfl, HW, HG⟩ := hrel
        by_cases hlt2 : j < M.length
        · have hjC : j < C.length := by have := HMLH.out; omega
          obtain ⟨f, hf⟩ : ∃ f, C[j]? = some f := ⟨C[j], List.getElem?_eq_getElem _⟩
          have hfl : f < L.length := HCM.out f (List.mem_of_getElem? hf)
          have hmj : M[j] = L[f].code := HMC.out j f hlt2 hf hfl hfl
          have hci := grown_cell HG.out (HM2.out j hlt2) (by show ¬ bc = g; omega)
          rw [hmj] at hci
          have HST : Hid (addAll T (C.take (j + 1)) = addAt (addAll T (C.take j)) f 1) := addAll_step T C hf
          have HBX : Hid (Below g w2 _) := Lib.hid (HB.out.grown HG.out (by have := HGS.out; omega) (fun g' hg' => by injection hg' with e; omega))
          have C2 := find_impl (some ⟨b, off, none⟩) cap L L[f].code _ (HA.out.below (HBW.out _ HBX.out)) hlen
          rw [HR.out.find f hfl] at C2
          have HC2 := Lib.hid C2
          clear C2 hf hmj
          go_wp2_with fail
          refine HC2.out.mono ?_
          rintro e w5 ⟨rfl, hb5⟩
          have HG5 := Lib.hid (grown_tr HG.out (grown_below (row := some g) hb5))
          have HW5 := Lib.hid (own_below HW.out hb5)
          obtain ⟨X, hX, hat, hS⟩ := row_at 1 (by rw [addAll_len]; exact hTl) hfl HW5.out
          obtain ⟨hx1, hx2⟩ := addAll_bd (C.take j) (by omega) HBD.out X hX
          rw [List.length_take, Nat.min_eq_left (Nat.le_of_lt hjC)] at hx2
          have HS := Lib.hid hS
          have fz := HW5.out.frozenAt
          have HTL : Hid ((addAll T (C.take j)).length = L.length) := by unfold Hid; rw [addAll_len]; exact hTl
          clear hX hS hb5 hci
          go_wp2
          have HN := row_set (v := X + 1) HTL.out hfl HW5.out
          go_roundw
          case rel =>
            refine ⟨j + 1, by omega, by go_num, ?_, Lib.hid (grown_tr HG5.out HN.2)⟩
            have := HN.1
            rw [← HS.out, ← HST.out] at this
            exact Lib.hid this
          case measure => simp [intOf]; omega
        · obtain rfl : j = M.length := by omega
          have h0 := HW.out
          rw [HMLH.out, List.take_length, ← HT.out] at h0
          have H0 := Lib.hid h0
          have HBX := Lib.hid (HB.out.grown HG.out (by have := HGS.out; omega) (fun g' hg' => by injection hg' with e; omega))
          clear h0
          go_wp2
          go_roundw
          case rel => exact ⟨k + 1, by omega, by go_num, H0, HBX⟩
          case measure => simp [intOf]; omega
    · obtain rfl : k = D.length := by omega
      have h0 := HW.out
      rw [HDL.out, List.take_length] at h0
      have H0 := Lib.hid h0
      clear h0
      go_wp2
      go_ret2
      refine ⟨some ⟨g, 0, none⟩, L.length, ?_, ?_, HBW.out _ HB.out⟩
      · rw [HQ.out]
        show _ = Ending.returned (.tuple #[.slice _ (usesTot L E).length L.length, .int .i64 0])
        rw [uses_len]
        rfl
      · rw [HQ.out]
        show World.ownsRow _ w.heap.size 2 1 (.slice _ (usesTot L E).length L.length) (usesTot L E).length (Ints.flat (usesTot L E))
        rw [uses_len]
        exact own_base H0.out HWG.out
end Go.Proofs.Ythhfhdekhgkcaaa
