/-
  AddEvent on both sides.
-/
import Derived.Test.YtfbafdnjjfmhjaaLog
import Derived.Test.YtfbafdnjjfmhjaaEventFun
import Derived.Test.YtfbafdnjjfmhjaaIntsFun
import Derived.Test.YtfbafdnjjfmhjaaMore
import Derived.Deep.RegionLaw
namespace Go.Proofs.Ytfbafdnjjfmhjaa
open Go.RowKit

def insE (L : List Event) (k : Nat) (s : Event) : List Event := L.take k ++ s :: L.drop k
def posE (L : List Event) (s : Event) : Nat := (L.takeWhile (fun t => decide (t.day ≤ s.day))).length
def cntE (L : List Event) (s : Event) : Nat := L.countP (fun t => decide (t.day ≤ s.day))
def addE (L : List Event) (s : Event) : List Event × Int := if isLog L then (if s.okB then (if L.length = 15 then ([], 3) else (insE L (posE L s) s, 0)) else ([], 1)) else ([], 1)
def addE2 (L : List Event) (s : Event) : List Event × Int := if isLog L then (if s.okB then (if L.length = 15 then ([], 3) else (insE L (cntE L s) s, 0)) else ([], 1)) else ([], 1)

theorem linked_sorted : ∀ (L : List Event) (p : Option Event), linked Event.okB dayLe p L = true → L.Pairwise (fun a b => a.day ≤ b.day)
  | [], _, _ => List.Pairwise.nil
  | [a], _, _ => by simp
  | a :: b :: L, p, h => by
    simp only [linked, Bool.and_eq_true] at h
    have h2 : linked Event.okB dayLe (some a) (b :: L) = true := by simp only [linked, Bool.and_eq_true]; exact h.2
    have ih := linked_sorted (b :: L) _ h2
    have hab : a.day ≤ b.day := by have := h.2.1.2; simpa [dayLe] using this
    refine List.Pairwise.cons (fun x hx => ?_) ih
    rcases List.mem_cons.1 hx with rfl | hx
    · exact hab
    · have := (List.pairwise_cons.1 ih).1 x hx; omega
theorem cnt_posE : ∀ (L : List Event) (s : Event), L.Pairwise (fun a b => a.day ≤ b.day) → cntE L s = posE L s
  | [], s, _ => rfl
  | t :: L, s, h => by
    obtain ⟨h1, h2⟩ := List.pairwise_cons.1 h
    unfold cntE posE
    by_cases hlt : t.day ≤ s.day
    · rw [List.countP_cons_of_pos (by simpa using hlt), List.takeWhile_cons_of_pos (by simpa using hlt), List.length_cons]
      exact congrArg (· + 1) (cnt_posE L s h2)
    · rw [List.countP_cons_of_neg (by simpa using hlt), List.takeWhile_cons_of_neg (by simpa using hlt), List.length_nil, List.countP_eq_zero]
      intro x hx
      have := h1 x hx
      simp; omega
theorem addE_eq (L : List Event) (s : Event) : addE2 L s = addE L s := by
  cases h : isLog L with
  | false => simp [addE, addE2, h]
  | true =>
    have hl : linked Event.okB dayLe none L = true := by simp only [isLog, Bool.and_eq_true] at h; exact h.1
    simp only [addE, addE2, cnt_posE L s (linked_sorted L _ hl)]
theorem addE_len (L : List Event) (s : Event) : (addE L s).1.length ≤ 1048576 := by
  unfold addE
  split
  · rename_i h
    have := log_len h
    split
    · split
      · simp
      · show (insE L (posE L s) s).length ≤ _
        simp [insE]; omega
    · simp
  · simp
theorem posE_step {L : List Event} {s : Event} {k : Nat} (h : k < L.length) (hp : decide (L[k].day ≤ s.day) = true) : posE (L.drop k) s = posE (L.drop (k + 1)) s + 1 := by
  rw [List.drop_eq_getElem_cons h]; unfold posE; rw [List.takeWhile_cons_of_pos (by simpa using hp)]; rfl
theorem posE_stop {L : List Event} {s : Event} {k : Nat} (h : k < L.length) (hp : decide (L[k].day ≤ s.day) = false) : posE (L.drop k) s = 0 := by
  rw [List.drop_eq_getElem_cons h]; unfold posE; rw [List.takeWhile_cons_of_neg (by simpa using hp)]; rfl
theorem posE_end {L : List Event} {s : Event} {k : Nat} (h : L.length ≤ k) : posE (L.drop k) s = 0 := by
  rw [List.drop_eq_nil_of_le h]; rfl
theorem ones_of (s : Event) : ∀ u ∈ s.cells, u.oneCell' = true := by
  have := Event.ones [s]
  simpa [Event.flat] using this
set_option maxHeartbeats 400000 in
theorem addClosure (t : Event) (a : Addr) (s : Event) (w : World) (hc : w.cell? ⟨a.block, a.off, none⟩ = some (.int .i64 s.day)) (ha : a.spot = none) :
    Calls Try.prog 88 #[t.val, .pointer (some a)] w fun e w' => e = .returned (.bool (decide (t.day ≤ s.day))) ∧ Below w.heap.size w w' := by
  obtain ⟨ab, ao, spot⟩ := a
  obtain rfl : spot = none := ha
  have B1 : Below w.heap.size w (w.alloc (.cells #[.int .i64 t.day, .int .i64 t.kind, .string t.interest, .int .i64 t.amount, .bool t.peril, .bool t.voluntary, .bool t.reasonable] 26)) := (Below.refl _ _).alloc (Nat.le_refl _) _
  have hc1 := below_cell B1 hc
  have HB := Lib.hid B1
  clear hc B1
  go_enter Try.func88, Try.ntmps88
  go_wp2
  go_ret
  exact ⟨rfl, HB.out⟩

set_option maxHeartbeats 4000000 in
set_option maxRecDepth 100000 in
theorem AddEvent_impl (b off cap : Nat) (L : List Event) (s : Event) (w : World) (hL : Event.At w (some ⟨b, off, none⟩) L) (hs : ∀ s ∈ L, s.tiny) (hs2 : s.tiny) (hlen : L.length ≤ 1048576) (hcap : L.length ≤ cap) (hcm : cap ≤ 9223372036854775807) :
    Calls Try.prog 35 #[.slice (some ⟨b, off, none⟩) L.length cap, s.val] w (Event.MadeC w (addE2 L s).1 (addE2 L s).2) := by
  have B1 : Below w.heap.size w (w.alloc (.cells #[.int .i64 s.day, .int .i64 s.kind, .string s.interest, .int .i64 s.amount, .bool s.peril, .bool s.voluntary, .bool s.reasonable] 26)) := (Below.refl _ _).alloc (Nat.le_refl _) _
  have D0 := Lib.hid (made_cell w #[.int .i64 s.day, .int .i64 s.kind, .string s.interest, .int .i64 s.amount, .bool s.peril, .bool s.voluntary, .bool s.reasonable] 26 0 (.int .i64 s.day) rfl)
  have D1 := Lib.hid (made_cell w #[.int .i64 s.day, .int .i64 s.kind, .string s.interest, .int .i64 s.amount, .bool s.peril, .bool s.voluntary, .bool s.reasonable] 26 1 (.int .i64 s.kind) rfl)
  have D2 := Lib.hid (made_cell w #[.int .i64 s.day, .int .i64 s.kind, .string s.interest, .int .i64 s.amount, .bool s.peril, .bool s.voluntary, .bool s.reasonable] 26 2 (.string s.interest) rfl)
  have D3 := Lib.hid (made_cell w #[.int .i64 s.day, .int .i64 s.kind, .string s.interest, .int .i64 s.amount, .bool s.peril, .bool s.voluntary, .bool s.reasonable] 26 3 (.int .i64 s.amount) rfl)
  have D4 := Lib.hid (made_cell w #[.int .i64 s.day, .int .i64 s.kind, .string s.interest, .int .i64 s.amount, .bool s.peril, .bool s.voluntary, .bool s.reasonable] 26 4 (.bool s.peril) rfl)
  have D5 := Lib.hid (made_cell w #[.int .i64 s.day, .int .i64 s.kind, .string s.interest, .int .i64 s.amount, .bool s.peril, .bool s.voluntary, .bool s.reasonable] 26 5 (.bool s.voluntary) rfl)
  have D6 := Lib.hid (made_cell w #[.int .i64 s.day, .int .i64 s.kind, .string s.interest, .int .i64 s.amount, .bool s.peril, .bool s.voluntary, .bool s.reasonable] 26 6 (.bool s.reasonable) rfl)
  have HX := Lib.hid (isLog_impl (some ⟨b, off, none⟩) cap L _ (hL.below B1) hs (by omega))
  have HB := Lib.hid B1
  have HA := Lib.hid hL
  have HL := Lib.hid hL.at_
  clear B1 hL
  cases hv : isLog L
  · rw [hv] at HX
    rw [addE2, hv]
    go_enter Try.func35, Try.ntmps35
    go_wp2_with fail
    refine HX.out.mono ?_
    rintro e w1 ⟨rfl, hb1⟩
    have hb := HB.out.trans (hb1.mono HB.out.size)
    clear hb1
    go_wp2
    go_ret2
    exact Event.nilC hb
  rw [hv] at HX
  have hvl := log_len hv
  cases ho : s.okB
  · rw [addE2, hv, ho]
    have HS := Lib.hid ho
    go_enter Try.func35, Try.ntmps35
    go_wp2_with fail
    refine HX.out.mono ?_
    rintro e w1 ⟨rfl, hb1⟩
    have hb := HB.out.trans (hb1.mono HB.out.size)
    have d0 := below_cell hb1 D0.out
    have d1 := below_cell hb1 D1.out
    have d2 := below_cell hb1 D2.out
    have d3 := below_cell hb1 D3.out
    have d4 := below_cell hb1 D4.out
    have d5 := below_cell hb1 D5.out
    have d6 := below_cell hb1 D6.out
    clear hb1
    go_wp2_with fail
    refine (calls_b HS.out (isEvent_impl s hs2 _)).mono ?_
    rintro e w2 ⟨rfl, hb1⟩
    have hb' := hb.trans (hb1.mono hb.size)
    clear hb1 hb
    go_wp2
    go_ret2
    exact Event.nilC hb'
  have HS := Lib.hid ho
  by_cases h15 : L.length = 15
  · rw [addE2, hv, ho, if_pos rfl, if_pos rfl, if_pos h15]
    have h15' : decide ((L.length : Int) = 15) = true := by simp; omega
    have h16 : ((L.length : Int) == 15) = true := by simp; omega
    clear h15
    go_enter Try.func35, Try.ntmps35
    go_wp2_with fail
    refine HX.out.mono ?_
    rintro e w1 ⟨rfl, hb1⟩
    have hb := HB.out.trans (hb1.mono HB.out.size)
    have d0 := below_cell hb1 D0.out
    have d1 := below_cell hb1 D1.out
    have d2 := below_cell hb1 D2.out
    have d3 := below_cell hb1 D3.out
    have d4 := below_cell hb1 D4.out
    have d5 := below_cell hb1 D5.out
    have d6 := below_cell hb1 D6.out
    clear hb1
    go_wp2_with fail
    refine (calls_b HS.out (isEvent_impl s hs2 _)).mono ?_
    rintro e w2 ⟨rfl, hb1⟩
    have hb' := hb.trans (hb1.mono hb.size)
    clear hb1 hb
    go_wp2
    go_ret2
    exact Event.nilC hb'
  have h15' : decide ((L.length : Int) = 15) = false := by simp; omega
  have h16 : ((L.length : Int) == 15) = false := by simp; omega
  obtain ⟨i0, hi, hz0, hz1, hz2⟩ := info_parts Event.info
  rw [addE2, hv, ho, if_pos rfl, if_pos rfl, if_neg h15]
  dsimp only

  have hE : ((idxs (fun t : Event => decide (t.day ≤ s.day)) L).length : Int) = (cntE L s : Nat) := by rw [idxs_count]; rfl
  have HE := Lib.hid hE
  have hIL := idxs_len (fun t : Event => decide (t.day ≤ s.day)) L
  have hk : cntE L s ≤ L.length := List.countP_le_length
  generalize hk' : cntE L s = k at HE hk ⊢
  clear hE hk' hv ho
  have hkc : k ≤ cap := by omega
  go_enter Try.func35, Try.ntmps35
  go_wp2_with fail
  refine HX.out.mono ?_
  rintro e w1 ⟨rfl, hb1⟩
  have hb := HB.out.trans (hb1.mono HB.out.size)
  have d0 := below_cell hb1 D0.out
  have d1 := below_cell hb1 D1.out
  have d2 := below_cell hb1 D2.out
  have d3 := below_cell hb1 D3.out
  have d4 := below_cell hb1 D4.out
  have d5 := below_cell hb1 D5.out
  have d6 := below_cell hb1 D6.out
  clear hb1
  go_wp2_with fail
  refine (calls_b HS.out (isEvent_impl s hs2 _)).mono ?_
  rintro e w2 ⟨rfl, hb1⟩
  have hb2 := hb.trans (hb1.mono hb.size)
  have E0 := Lib.hid (below_cell hb1 d0)
  have E1 := Lib.hid (below_cell hb1 d1)
  have E2 := Lib.hid (below_cell hb1 d2)
  have E3 := Lib.hid (below_cell hb1 d3)
  have E4 := Lib.hid (below_cell hb1 d4)
  have E5 := Lib.hid (below_cell hb1 d5)
  have E6 := Lib.hid (below_cell hb1 d6)
  clear hb1 hb d0 d1 d2 d3 d4 d5 d6

  go_wp2_with fail
  refine (indicesEvent 88 #[.pointer (some ⟨w.heap.size, 0, none⟩)] _ cap L (fun t => decide (t.day ≤ s.day)) w2 (HA.out.below hb2) ⟨run_callFunc_enter Try.func88 (by kernel_rfl) (by kernel_rfl), fun w' hw x _ => addClosure x _ s w' (below_cell hw E0.out) rfl⟩ hlen).mono ?_
  rintro e w3 ⟨D, cd, rfl, _, hb3⟩
  have hb3' := hb2.trans (hb3.mono hb2.size)
  have d0 := below_cell hb3 E0.out
  have d1 := below_cell hb3 E1.out
  have d2 := below_cell hb3 E2.out
  have d3 := below_cell hb3 E3.out
  have d4 := below_cell hb3 E4.out
  have d5 := below_cell hb3 E5.out
  have d6 := below_cell hb3 E6.out
  clear hb2 hb3
  go_wp2_with fail
  refine (calls_v (congrArg (Value.int .i64) HE.out) (countInts D _ cd _ (by omega))).mono ?_
  rintro e wq ⟨rfl, rfl⟩
  have hb' := hb3'
  clear hb3'
  have hb0 := hb'.size
  have hb0' : w.heap.size < w3.heap.size := World.block_lt_of_cell? _ _ d0
  go_wp2
  by_cases hne : cap = k
  · have HDA : Hid (∀ W, Reads W 7 (some ⟨b, off, none⟩) L.length (Event.flat L) → Reads W 7 (some ⟨b, off, none⟩) 0 ((Event.flat L).drop (k * 7))) := fun W h => drop_end h (by omega)
    have hne' := hne.symm
    clear hne
    subst hne'
    have RW : Reads w3 7 (some ⟨b, off, none⟩) L.length (Event.flat L) := HA.out.below hb'
    have RT := RW.take hk
    have HDr : Hid (Reads w3 7 (some ⟨b, off, none⟩) 0 ((Event.flat L).drop (k * 7))) := HDA.out _ RW
    have h1k : ∀ u ∈ (Event.flat L).take (k * 7), u.oneCell' = true := by rw [Event.flat, flat_take _ _ Event.len]; exact Event.ones _
    have h1d : ∀ u ∈ (Event.flat L).drop (k * 7), u.oneCell' = true := by rw [Event.flat, flat_drop _ _ Event.len]; exact Event.ones _
    have hT1 := Lib.hid h1k
    have hT2 := Lib.hid h1d
    have BD : Below w3.heap.size w3 w3.drew := (Below.refl _ _).drew
    have BDA : Below w3.heap.size w3 (w3.alloc (.cells #[.int .i64 s.day, .int .i64 s.kind, .string s.interest, .int .i64 s.amount, .bool s.peril, .bool s.voluntary, .bool s.reasonable] 26)).drew := ((Below.refl _ _).alloc (Nat.le_refl _) _).drew
    have HAT : Hid (Event.At w3 (some ⟨b, off, none⟩) (L.take k)) := by
      have := RT
      rw [Event.flat, flat_take _ _ Event.len] at this
      have e : (L.take k).length = k := by rw [List.length_take]; omega
      unfold Hid Event.At
      rw [e]
      exact this
    have HTk : Hid ((Event.flat L).take (k * 7) = Event.flat (L.take k)) := by unfold Hid; rw [Event.flat, flat_take _ _ Event.len]; rfl
    have hlk : (L.take k).length = k := by rw [List.length_take]; omega
    have HLK := Lib.hid hlk
    have hcopy : ∀ W, Event.At W (some ⟨b, off, none⟩) (L.take k) → Calls Try.prog 89 #[.slice (some ⟨b, off, none⟩) k k] W fun e w' => ∃ A1 c1, e = .returned (.slice A1 k c1) ∧ w'.ownsRow W.heap.size 26 7 (.slice A1 k c1) k ((Event.flat L).take (k * 7)) ∧ Below W.heap.size W w' := fun W hW => by
      have := copyOfEvent _ k (L.take k) W hW (by rw [HLK.out]; omega)
      unfold Event.Made at this
      rw [HLK.out, ← HTk.out] at this
      exact this
    have HC := Lib.hid hcopy
    have HN : Hid (Reads (w3.alloc (.cells #[.int .i64 s.day, .int .i64 s.kind, .string s.interest, .int .i64 s.amount, .bool s.peril, .bool s.voluntary, .bool s.reasonable] 26)).drew 7 (some ⟨w3.heap.size, 0, none⟩) 1 s.cells) := Lib.hid (reads_new w3 #[.int .i64 s.day, .int .i64 s.kind, .string s.interest, .int .i64 s.amount, .bool s.peril, .bool s.voluntary, .bool s.reasonable] 26 rfl)
    have HBD := Lib.hid BD
    have HBDA := Lib.hid BDA
    clear RW RT h1k h1d BD BDA hlk hcopy HTk
    go_region_law (first | (go_simp; go_at_call 89; refine (HC.out _ (HAT.out.below (by first | exact HBD.out | exact HBDA.out))).mono ?_; rintro e wa ⟨A1, c1, rfl, ho1, hbc⟩; have HWa : Hid (Below w3.heap.size w3 wa) := (by first | exact HBD.out.trans (hbc.mono HBD.out.size) | exact HBDA.out.trans (hbc.mono HBDA.out.size)); have d0 := below_cell HWa.out d0; have d1 := below_cell HWa.out d1; have d2 := below_cell HWa.out d2; have d3 := below_cell HWa.out d3; have d4 := below_cell HWa.out d4; have d5 := below_cell HWa.out d5; have d6 := below_cell HWa.out d6; have HOa := Lib.hid ho1; have HBC := Lib.hid hbc; clear ho1 hbc) | (refine step_append_src _ rfl (.tmp 27) (.tmp 29) 32 rfl w3.heap.size 26 i0 _ 7 48 Try.underlying32 hi hz0 hz1 hz2 rfl (by decide) _ k _ rfl (own_base (HOa.out.alloc _) (by simp)) _ 1 1 rfl s.cells (reads_new _ _ _ rfl) (ones_of s) (by unfold maxLen; omega) (by omega) (by have := HWa.out.size; simp; omega) ?_; intro A3 c3 wb hownb hgrb; have HWb : Hid (Below w3.heap.size w3 wb) := Lib.hid ((HWa.out.alloc HWa.out.size _).grown hgrb (by have := HWa.out.size; simp; omega) (fun g hg => Nat.le_trans (by simp) (HOa.out.lt g hg).1)); have HOb := Lib.hid hownb; clear hownb hgrb) | (refine step_append_src _ rfl (.tmp 27) (.tmp 29) 32 rfl w3.heap.size 26 i0 _ 7 48 Try.underlying32 hi hz0 hz1 hz2 rfl (by decide) _ k _ rfl (own_base HOa.out (by simp)) _ 1 1 rfl s.cells (HN.out.below HBC.out) (ones_of s) (by unfold maxLen; omega) (by omega) HWa.out.size ?_; intro A3 c3 wb hownb hgrb; have HWb : Hid (Below w3.heap.size w3 wb) := Lib.hid (HWa.out.grown hgrb HWa.out.size (fun g hg => Nat.le_trans (by simp) (HOa.out.lt g hg).1)); have HOb := Lib.hid hownb; clear hownb hgrb) | (refine step_append_src _ rfl (.tmp 30) (.tmp 33) 32 rfl w3.heap.size 26 i0 _ 7 48 Try.underlying32 hi hz0 hz1 hz2 rfl (by decide) _ (k + 1) _ rfl HOb.out _ 0 _ rfl _ (HDr.out.below HWb.out) hT2.out (by unfold maxLen; omega) (by omega) HWb.out.size ?_; intro A4 c4 wc hownc hgrc; have HWc : Hid (Below w3.heap.size w3 wc) := Lib.hid (HWb.out.grown hgrc HWb.out.size (fun g hg => (HOb.out.lt g hg).1)); have HOc := Lib.hid hownc; clear hownc hgrc))

    all_goals (
      have HO4 := own_base HOc.out hb'.size
      have hl4 : (insE L k s).length = k + 1 + 0 := by simp [insE]; omega
      have e4 : Event.flat (insE L k s) = (Event.flat L).take (k * 7) ++ s.cells ++ (Event.flat L).drop (k * 7) := by
        unfold insE
        rw [Event.flat, Event.flat, flat_drop _ _ Event.len, flat_take _ _ Event.len, List.flatMap_append, List.flatMap_cons, List.append_assoc]
      have hb6 := hb'.trans (HWc.out.mono hb'.size)
      rw [← e4] at HO4
      have HL4 := Lib.hid hl4
      have HO5 := Lib.hid HO4
      clear hl4 e4 HO4
      go_wp2
      go_ret2
      refine ⟨A4, c4, ?_, ?_, hb6⟩
      · show Ending.returned (.tuple #[.slice A4 (k + 1 + 0) c4, .int .i64 0]) = .returned (.tuple #[.slice A4 (insE L k s).length c4, .int .i64 0])
        rw [HL4.out]
      · show World.ownsRow _ w.heap.size 26 7 (.slice A4 (insE L k s).length c4) (insE L k s).length (Event.flat (insE L k s))
        rw [HL4.out]
        exact HO5.out)

  · have HDA : Hid (∀ W, Reads W 7 (some ⟨b, off, none⟩) L.length (Event.flat L) → Reads W 7 (some ⟨b, off + k * 7, none⟩) (L.length - k) ((Event.flat L).drop (k * 7))) := fun W h => h.drop hk
    have RW : Reads w3 7 (some ⟨b, off, none⟩) L.length (Event.flat L) := HA.out.below hb'
    have RT := RW.take hk
    have HDr : Hid (Reads w3 7 (some ⟨b, off + k * 7, none⟩) (L.length - k) ((Event.flat L).drop (k * 7))) := HDA.out _ RW
    have h1k : ∀ u ∈ (Event.flat L).take (k * 7), u.oneCell' = true := by rw [Event.flat, flat_take _ _ Event.len]; exact Event.ones _
    have h1d : ∀ u ∈ (Event.flat L).drop (k * 7), u.oneCell' = true := by rw [Event.flat, flat_drop _ _ Event.len]; exact Event.ones _
    have hT1 := Lib.hid h1k
    have hT2 := Lib.hid h1d
    have BD : Below w3.heap.size w3 w3.drew := (Below.refl _ _).drew
    have BDA : Below w3.heap.size w3 (w3.alloc (.cells #[.int .i64 s.day, .int .i64 s.kind, .string s.interest, .int .i64 s.amount, .bool s.peril, .bool s.voluntary, .bool s.reasonable] 26)).drew := ((Below.refl _ _).alloc (Nat.le_refl _) _).drew
    have HAT : Hid (Event.At w3 (some ⟨b, off, none⟩) (L.take k)) := by
      have := RT
      rw [Event.flat, flat_take _ _ Event.len] at this
      have e : (L.take k).length = k := by rw [List.length_take]; omega
      unfold Hid Event.At
      rw [e]
      exact this
    have HTk : Hid ((Event.flat L).take (k * 7) = Event.flat (L.take k)) := by unfold Hid; rw [Event.flat, flat_take _ _ Event.len]; rfl
    have hlk : (L.take k).length = k := by rw [List.length_take]; omega
    have HLK := Lib.hid hlk
    have hcopy : ∀ W, Event.At W (some ⟨b, off, none⟩) (L.take k) → Calls Try.prog 89 #[.slice (some ⟨b, off, none⟩) k cap] W fun e w' => ∃ A1 c1, e = .returned (.slice A1 k c1) ∧ w'.ownsRow W.heap.size 26 7 (.slice A1 k c1) k ((Event.flat L).take (k * 7)) ∧ Below W.heap.size W w' := fun W hW => by
      have := copyOfEvent _ cap (L.take k) W hW (by rw [HLK.out]; omega)
      unfold Event.Made at this
      rw [HLK.out, ← HTk.out] at this
      exact this
    have HC := Lib.hid hcopy
    have HN : Hid (Reads (w3.alloc (.cells #[.int .i64 s.day, .int .i64 s.kind, .string s.interest, .int .i64 s.amount, .bool s.peril, .bool s.voluntary, .bool s.reasonable] 26)).drew 7 (some ⟨w3.heap.size, 0, none⟩) 1 s.cells) := Lib.hid (reads_new w3 #[.int .i64 s.day, .int .i64 s.kind, .string s.interest, .int .i64 s.amount, .bool s.peril, .bool s.voluntary, .bool s.reasonable] 26 rfl)
    have HBD := Lib.hid BD
    have HBDA := Lib.hid BDA
    clear RW RT h1k h1d BD BDA hlk hcopy HTk
    go_region_law (first | (go_simp; go_at_call 89; refine (HC.out _ (HAT.out.below (by first | exact HBD.out | exact HBDA.out))).mono ?_; rintro e wa ⟨A1, c1, rfl, ho1, hbc⟩; have HWa : Hid (Below w3.heap.size w3 wa) := (by first | exact HBD.out.trans (hbc.mono HBD.out.size) | exact HBDA.out.trans (hbc.mono HBDA.out.size)); have d0 := below_cell HWa.out d0; have d1 := below_cell HWa.out d1; have d2 := below_cell HWa.out d2; have d3 := below_cell HWa.out d3; have d4 := below_cell HWa.out d4; have d5 := below_cell HWa.out d5; have d6 := below_cell HWa.out d6; have HOa := Lib.hid ho1; have HBC := Lib.hid hbc; clear ho1 hbc) | (refine step_append_src _ rfl (.tmp 27) (.tmp 29) 32 rfl w3.heap.size 26 i0 _ 7 48 Try.underlying32 hi hz0 hz1 hz2 rfl (by decide) _ k _ rfl (own_base (HOa.out.alloc _) (by simp)) _ 1 1 rfl s.cells (reads_new _ _ _ rfl) (ones_of s) (by unfold maxLen; omega) (by omega) (by have := HWa.out.size; simp; omega) ?_; intro A3 c3 wb hownb hgrb; have HWb : Hid (Below w3.heap.size w3 wb) := Lib.hid ((HWa.out.alloc HWa.out.size _).grown hgrb (by have := HWa.out.size; simp; omega) (fun g hg => Nat.le_trans (by simp) (HOa.out.lt g hg).1)); have HOb := Lib.hid hownb; clear hownb hgrb) | (refine step_append_src _ rfl (.tmp 27) (.tmp 29) 32 rfl w3.heap.size 26 i0 _ 7 48 Try.underlying32 hi hz0 hz1 hz2 rfl (by decide) _ k _ rfl (own_base HOa.out (by simp)) _ 1 1 rfl s.cells (HN.out.below HBC.out) (ones_of s) (by unfold maxLen; omega) (by omega) HWa.out.size ?_; intro A3 c3 wb hownb hgrb; have HWb : Hid (Below w3.heap.size w3 wb) := Lib.hid (HWa.out.grown hgrb HWa.out.size (fun g hg => Nat.le_trans (by simp) (HOa.out.lt g hg).1)); have HOb := Lib.hid hownb; clear hownb hgrb) | (refine step_append_src _ rfl (.tmp 30) (.tmp 33) 32 rfl w3.heap.size 26 i0 _ 7 48 Try.underlying32 hi hz0 hz1 hz2 rfl (by decide) _ (k + 1) _ rfl HOb.out _ (L.length - k) _ rfl _ (HDr.out.below HWb.out) hT2.out (by unfold maxLen; omega) (by omega) HWb.out.size ?_; intro A4 c4 wc hownc hgrc; have HWc : Hid (Below w3.heap.size w3 wc) := Lib.hid (HWb.out.grown hgrc HWb.out.size (fun g hg => (HOb.out.lt g hg).1)); have HOc := Lib.hid hownc; clear hownc hgrc))

    all_goals (
      have HO4 := own_base HOc.out hb'.size
      have hl4 : (insE L k s).length = k + 1 + (L.length - k) := by simp [insE]; omega
      have e4 : Event.flat (insE L k s) = (Event.flat L).take (k * 7) ++ s.cells ++ (Event.flat L).drop (k * 7) := by
        unfold insE
        rw [Event.flat, Event.flat, flat_drop _ _ Event.len, flat_take _ _ Event.len, List.flatMap_append, List.flatMap_cons, List.append_assoc]
      have hb6 := hb'.trans (HWc.out.mono hb'.size)
      rw [← e4] at HO4
      have HL4 := Lib.hid hl4
      have HO5 := Lib.hid HO4
      clear hl4 e4 HO4
      go_wp2
      go_ret2
      refine ⟨A4, c4, ?_, ?_, hb6⟩
      · show Ending.returned (.tuple #[.slice A4 (k + 1 + (L.length - k)) c4, .int .i64 0]) = .returned (.tuple #[.slice A4 (insE L k s).length c4, .int .i64 0])
        rw [HL4.out]
      · show World.ownsRow _ w.heap.size 26 7 (.slice A4 (insE L k s).length c4) (insE L k s).length (Event.flat (insE L k s))
        rw [HL4.out]
        exact HO5.out)


set_option maxHeartbeats 4000000 in
set_option maxRecDepth 100000 in
theorem AddEvent_spec (b off cap : Nat) (L : List Event) (s : Event) (w : World) (hL : Event.At w (some ⟨b, off, none⟩) L) (hs : ∀ s ∈ L, s.tiny) (hs2 : s.tiny) (hlen : L.length ≤ 1048576) (hcap : L.length ≤ cap) (hcm : cap ≤ 9223372036854775807) :
    Calls Try.prog 34 #[.slice (some ⟨b, off, none⟩) L.length cap, s.val] w (Event.MadeC w (addE L s).1 (addE L s).2) := by
  have B1 : Below w.heap.size w (w.alloc (.cells #[.int .i64 s.day, .int .i64 s.kind, .string s.interest, .int .i64 s.amount, .bool s.peril, .bool s.voluntary, .bool s.reasonable] 26)) := (Below.refl _ _).alloc (Nat.le_refl _) _
  have D0 := Lib.hid (made_cell w #[.int .i64 s.day, .int .i64 s.kind, .string s.interest, .int .i64 s.amount, .bool s.peril, .bool s.voluntary, .bool s.reasonable] 26 0 (.int .i64 s.day) rfl)
  have D1 := Lib.hid (made_cell w #[.int .i64 s.day, .int .i64 s.kind, .string s.interest, .int .i64 s.amount, .bool s.peril, .bool s.voluntary, .bool s.reasonable] 26 1 (.int .i64 s.kind) rfl)
  have D2 := Lib.hid (made_cell w #[.int .i64 s.day, .int .i64 s.kind, .string s.interest, .int .i64 s.amount, .bool s.peril, .bool s.voluntary, .bool s.reasonable] 26 2 (.string s.interest) rfl)
  have D3 := Lib.hid (made_cell w #[.int .i64 s.day, .int .i64 s.kind, .string s.interest, .int .i64 s.amount, .bool s.peril, .bool s.voluntary, .bool s.reasonable] 26 3 (.int .i64 s.amount) rfl)
  have D4 := Lib.hid (made_cell w #[.int .i64 s.day, .int .i64 s.kind, .string s.interest, .int .i64 s.amount, .bool s.peril, .bool s.voluntary, .bool s.reasonable] 26 4 (.bool s.peril) rfl)
  have D5 := Lib.hid (made_cell w #[.int .i64 s.day, .int .i64 s.kind, .string s.interest, .int .i64 s.amount, .bool s.peril, .bool s.voluntary, .bool s.reasonable] 26 5 (.bool s.voluntary) rfl)
  have D6 := Lib.hid (made_cell w #[.int .i64 s.day, .int .i64 s.kind, .string s.interest, .int .i64 s.amount, .bool s.peril, .bool s.voluntary, .bool s.reasonable] 26 6 (.bool s.reasonable) rfl)
  have HX := Lib.hid (isLog_spec (some ⟨b, off, none⟩) cap L _ (hL.below B1) hs (by omega))
  have HB := Lib.hid B1
  have HA := Lib.hid hL
  have HL := Lib.hid hL.at_
  clear B1 hL
  cases hv : isLog L
  · rw [hv] at HX
    rw [addE, hv]
    go_enter Try.func34, Try.ntmps34
    go_wp2_with fail
    refine HX.out.mono ?_
    rintro e w1 ⟨rfl, hb1⟩
    have hb := HB.out.trans (hb1.mono HB.out.size)
    clear hb1
    go_wp2
    go_ret2
    exact Event.nilC hb
  rw [hv] at HX
  have hvl := log_len hv
  cases ho : s.okB
  · rw [addE, hv, ho]
    have HS := Lib.hid ho
    go_enter Try.func34, Try.ntmps34
    go_wp2_with fail
    refine HX.out.mono ?_
    rintro e w1 ⟨rfl, hb1⟩
    have hb := HB.out.trans (hb1.mono HB.out.size)
    have d0 := below_cell hb1 D0.out
    have d1 := below_cell hb1 D1.out
    have d2 := below_cell hb1 D2.out
    have d3 := below_cell hb1 D3.out
    have d4 := below_cell hb1 D4.out
    have d5 := below_cell hb1 D5.out
    have d6 := below_cell hb1 D6.out
    clear hb1
    go_wp2_with fail
    refine (calls_b HS.out (isEvent_spec s hs2 _)).mono ?_
    rintro e w2 ⟨rfl, hb1⟩
    have hb' := hb.trans (hb1.mono hb.size)
    clear hb1 hb
    go_wp2
    go_ret2
    exact Event.nilC hb'
  have HS := Lib.hid ho
  by_cases h15 : L.length = 15
  · rw [addE, hv, ho, if_pos rfl, if_pos rfl, if_pos h15]
    have h15' : decide ((L.length : Int) = 15) = true := by simp; omega
    have h16 : ((L.length : Int) == 15) = true := by simp; omega
    clear h15
    go_enter Try.func34, Try.ntmps34
    go_wp2_with fail
    refine HX.out.mono ?_
    rintro e w1 ⟨rfl, hb1⟩
    have hb := HB.out.trans (hb1.mono HB.out.size)
    have d0 := below_cell hb1 D0.out
    have d1 := below_cell hb1 D1.out
    have d2 := below_cell hb1 D2.out
    have d3 := below_cell hb1 D3.out
    have d4 := below_cell hb1 D4.out
    have d5 := below_cell hb1 D5.out
    have d6 := below_cell hb1 D6.out
    clear hb1
    go_wp2_with fail
    refine (calls_b HS.out (isEvent_spec s hs2 _)).mono ?_
    rintro e w2 ⟨rfl, hb1⟩
    have hb' := hb.trans (hb1.mono hb.size)
    clear hb1 hb
    go_wp2
    go_ret2
    exact Event.nilC hb'
  have h15' : decide ((L.length : Int) = 15) = false := by simp; omega
  have h16 : ((L.length : Int) == 15) = false := by simp; omega
  obtain ⟨i0, hi, hz0, hz1, hz2⟩ := info_parts Event.info
  rw [addE, hv, ho, if_pos rfl, if_pos rfl, if_neg h15]
  dsimp only

  obtain ⟨kk, hkk⟩ : ∃ kk, kk = posE L s := ⟨_, rfl⟩
  rw [← hkk]
  have HK := Lib.hid hkk
  clear hkk hv ho
  go_enter Try.func34, Try.ntmps34
  go_wp2_with fail
  refine HX.out.mono ?_
  rintro e w1 ⟨rfl, hb1⟩
  have hb := HB.out.trans (hb1.mono HB.out.size)
  have d0 := below_cell hb1 D0.out
  have d1 := below_cell hb1 D1.out
  have d2 := below_cell hb1 D2.out
  have d3 := below_cell hb1 D3.out
  have d4 := below_cell hb1 D4.out
  have d5 := below_cell hb1 D5.out
  have d6 := below_cell hb1 D6.out
  clear hb1
  go_wp2_with fail
  refine (calls_b HS.out (isEvent_spec s hs2 _)).mono ?_
  rintro e w2 ⟨rfl, hb1⟩
  have hb2 := hb.trans (hb1.mono hb.size)
  have E0 := Lib.hid (below_cell hb1 d0)
  have E1 := Lib.hid (below_cell hb1 d1)
  have E2 := Lib.hid (below_cell hb1 d2)
  have E3 := Lib.hid (below_cell hb1 d3)
  have E4 := Lib.hid (below_cell hb1 d4)
  have E5 := Lib.hid (below_cell hb1 d5)
  have E6 := Lib.hid (below_cell hb1 d6)
  clear hb1 hb d0 d1 d2 d3 d4 d5 d6

  go_wp2
  go_loopw [6] (fun i wr => ∃ k : Nat, k ≤ L.length ∧ i = .int .i64 k ∧ Hid (posE L s = k + posE (L.drop k) s) ∧ Below w2.heap.size w2 wr) (fun i _ => L.length - (intOf i).toNat)
  case atStart => exact ⟨0, Nat.zero_le _, rfl, (by simp [Hid]), Below.refl _ _⟩
  case round =>
    obtain ⟨k, hk, rfl, HP, hb1⟩ := hrel
    have hbw := hb2.trans (hb1.mono hb2.size)
    have e1 := below_cell hb1 E0.out
    have e1' := fun x : BW wr => x.cell e1
    by_cases hgo : ∃ hlt : k < L.length, decide (L[k].day ≤ s.day) = true
    · obtain ⟨hlt, hp⟩ := hgo
      obtain ⟨b', off', he, hlb, c0, c1, c2, c3, c4, c5, c6⟩ := HL.out k hlt
      obtain ⟨rfl, rfl⟩ : b = b' ∧ off = off' := by injection he with he; injection he with he1 he2; exact ⟨he1, he2⟩
      clear he
      replace c0 := (hbw.cell hlb).trans c0
      have c0' := fun x : BW wr => x.cell c0
      have HQ := Lib.hid (posE_step hlt hp)
      have hg : decide ((k : Int) < (L.length : Int)) = true := by simp; omega
      go_wp2
      refine wp_region_bw (by kernel_rfl) (by kernel_rfl) ?_
      repeat (go_big_quiet_step (fail))
      refine wpQuiet_nil ?_
      intro wq hx
      have hq := bw_out hx
      clear hx
      have hq2 := hb1.trans (hq.mono hb1.size)
      clear hq
      go_wp2
      go_roundw
      case rel => exact ⟨k + 1, by omega, by go_num, by have := HP.out; have := HQ.out; unfold Hid; omega, hq2⟩
      case measure => simp [intOf]; omega
    · have HKK : Hid (kk = k) := by
        have h1 := HP.out
        have h2 := HK.out
        unfold Hid
        by_cases hlt : k < L.length
        · have := posE_stop (s := s) hlt (by simpa using fun h => hgo ⟨hlt, h⟩)
          omega
        · have := posE_end (L := L) (s := s) (k := k) (by omega)
          omega
      have hend : Hid (∀ wq : World, Below w2.heap.size w2 wq → ∀ x : Unit, True) := fun _ _ _ => trivial
      obtain ⟨wp0, hwp0⟩ : ∃ x : World, x = wr := ⟨_, rfl⟩
      clear hwp0 wp0 hend
      have hkc : k ≤ cap := by omega
      obtain rfl := HKK.out
      by_cases hlt : kk < L.length
      · have hp : decide (L[kk].day ≤ s.day) = false := by
          cases h : decide (L[kk].day ≤ s.day) with
          | false => rfl
          | true => exact absurd ⟨hlt, h⟩ hgo
        obtain ⟨b', off', he, hlb, c0, c1, c2, c3, c4, c5, c6⟩ := HL.out kk hlt
        obtain ⟨rfl, rfl⟩ : b = b' ∧ off = off' := by injection he with he; injection he with he1 he2; exact ⟨he1, he2⟩
        clear he c1 c2 c3 c4 c5 c6 hgo
        replace c0 := (hbw.cell hlb).trans c0
        have c0' := fun x : BW wr => x.cell c0
        have hg : decide ((kk : Int) < (L.length : Int)) = true := by simp; omega
        go_wp2
        refine wp_region_bw (by kernel_rfl) (by kernel_rfl) ?_
        repeat (go_big_quiet_step (fail))
        refine wpQuiet_nil ?_
        intro wq hx
        have hq := bw_out hx
        clear hx c0' e1'
        have hq2 := hb1.trans (hq.mono hb1.size)
        have hb' := hb2.trans (hq2.mono hb2.size)
        have d0 := below_cell hq2 E0.out
        have d1 := below_cell hq2 E1.out
        have d2 := below_cell hq2 E2.out
        have d3 := below_cell hq2 E3.out
        have d4 := below_cell hq2 E4.out
        have d5 := below_cell hq2 E5.out
        have d6 := below_cell hq2 E6.out
        clear hq
        have hb0 := hb'.size
        have hb0' : w.heap.size < wq.heap.size := World.block_lt_of_cell? _ _ d0
        by_cases hne : cap = kk
        · have HDA : Hid (∀ W, Reads W 7 (some ⟨b, off, none⟩) L.length (Event.flat L) → Reads W 7 (some ⟨b, off, none⟩) 0 ((Event.flat L).drop (kk * 7))) := fun W h => drop_end h (by omega)
          have hne' := hne.symm
          clear hne
          subst hne'
          have RW : Reads wq 7 (some ⟨b, off, none⟩) L.length (Event.flat L) := HA.out.below hb'
          have RT := RW.take hk
          have HDr : Hid (Reads wq 7 (some ⟨b, off, none⟩) 0 ((Event.flat L).drop (kk * 7))) := HDA.out _ RW
          have h1k : ∀ u ∈ (Event.flat L).take (kk * 7), u.oneCell' = true := by rw [Event.flat, flat_take _ _ Event.len]; exact Event.ones _
          have h1d : ∀ u ∈ (Event.flat L).drop (kk * 7), u.oneCell' = true := by rw [Event.flat, flat_drop _ _ Event.len]; exact Event.ones _
          have hT1 := Lib.hid h1k
          have hT2 := Lib.hid h1d
          have BD : Below wq.heap.size wq wq.drew := (Below.refl _ _).drew
          have BE : Below wq.heap.size wq (wq.drew.alloc (.cells #[] 26)) := BD.alloc (Nat.le_refl _) _
          have BS : Below wq.heap.size wq (wq.drew.alloc (.cells #[.int .i64 s.day, .int .i64 s.kind, .string s.interest, .int .i64 s.amount, .bool s.peril, .bool s.voluntary, .bool s.reasonable] 26)) := BD.alloc (Nat.le_refl _) _
          have BES : Below wq.heap.size wq ((wq.drew.alloc (.cells #[] 26)).alloc (.cells #[.int .i64 s.day, .int .i64 s.kind, .string s.interest, .int .i64 s.amount, .bool s.peril, .bool s.voluntary, .bool s.reasonable] 26)) := BE.alloc BE.size _
          have BSE : Below wq.heap.size wq ((wq.drew.alloc (.cells #[.int .i64 s.day, .int .i64 s.kind, .string s.interest, .int .i64 s.amount, .bool s.peril, .bool s.voluntary, .bool s.reasonable] 26)).alloc (.cells #[] 26)) := BS.alloc BS.size _
          have nE : (wq.drew.alloc (.cells #[] 26)).ownsRow wq.heap.size 26 7 (.slice (some ⟨wq.heap.size, 0, none⟩) 0 0) 0 [] := own_new wq.drew _ _ _ (Nat.le_refl _)
          have nES : ((wq.drew.alloc (.cells #[] 26)).alloc (.cells #[.int .i64 s.day, .int .i64 s.kind, .string s.interest, .int .i64 s.amount, .bool s.peril, .bool s.voluntary, .bool s.reasonable] 26)).ownsRow wq.heap.size 26 7 (.slice (some ⟨wq.heap.size, 0, none⟩) 0 0) 0 [] := nE.alloc _
          have nSE : ((wq.drew.alloc (.cells #[.int .i64 s.day, .int .i64 s.kind, .string s.interest, .int .i64 s.amount, .bool s.peril, .bool s.voluntary, .bool s.reasonable] 26)).alloc (.cells #[] 26)).ownsRow wq.heap.size 26 7 (.slice (some ⟨wq.heap.size + 1, 0, none⟩) 0 0) 0 [] := by
            have := own_new (wq.drew.alloc (.cells #[.int .i64 s.day, .int .i64 s.kind, .string s.interest, .int .i64 s.amount, .bool s.peril, .bool s.voluntary, .bool s.reasonable] 26)) wq.heap.size 26 7 BS.size
            rw [World.size_alloc] at this
            exact this
          have sSE : Reads ((wq.drew.alloc (.cells #[.int .i64 s.day, .int .i64 s.kind, .string s.interest, .int .i64 s.amount, .bool s.peril, .bool s.voluntary, .bool s.reasonable] 26)).alloc (.cells #[] 26)) 7 (some ⟨wq.heap.size, 0, none⟩) 1 s.cells := Reads.below (reads_new wq.drew #[.int .i64 s.day, .int .i64 s.kind, .string s.interest, .int .i64 s.amount, .bool s.peril, .bool s.voluntary, .bool s.reasonable] 26 rfl) ((Below.refl _ _).alloc (Nat.le_refl _) _)
          have sES : Reads ((wq.drew.alloc (.cells #[] 26)).alloc (.cells #[.int .i64 s.day, .int .i64 s.kind, .string s.interest, .int .i64 s.amount, .bool s.peril, .bool s.voluntary, .bool s.reasonable] 26)) 7 (some ⟨wq.heap.size + 1, 0, none⟩) 1 s.cells := by
            have := reads_new (wq.drew.alloc (.cells #[] 26)) #[.int .i64 s.day, .int .i64 s.kind, .string s.interest, .int .i64 s.amount, .bool s.peril, .bool s.voluntary, .bool s.reasonable] 26 (size := 7) rfl
            rw [World.size_alloc] at this
            exact this
          have HTE := Lib.hid (RT.below BE)
          have HTES := Lib.hid (RT.below BES)
          have HTSE := Lib.hid (RT.below BSE)
          have HBE := Lib.hid BE
          have HBES := Lib.hid BES
          have HBSE := Lib.hid BSE
          have HNE := Lib.hid nE
          have HNES := Lib.hid nES
          have HNSE := Lib.hid nSE
          have HsSE := Lib.hid sSE
          have HsES := Lib.hid sES
          have H01 : Hid (some wq.heap.size ≠ some (wq.heap.size + 1)) := by unfold Hid; simp
          have H10 : Hid (some (wq.heap.size + 1) ≠ some wq.heap.size) := by unfold Hid; simp
          have f0 := below_cell ((Below.refl wq.heap.size wq).alloc (Nat.le_refl _) (.cells #[] 26)) d0
          have f1 := below_cell ((Below.refl wq.heap.size wq).alloc (Nat.le_refl _) (.cells #[] 26)) d1
          have f2 := below_cell ((Below.refl wq.heap.size wq).alloc (Nat.le_refl _) (.cells #[] 26)) d2
          have f3 := below_cell ((Below.refl wq.heap.size wq).alloc (Nat.le_refl _) (.cells #[] 26)) d3
          have f4 := below_cell ((Below.refl wq.heap.size wq).alloc (Nat.le_refl _) (.cells #[] 26)) d4
          have f5 := below_cell ((Below.refl wq.heap.size wq).alloc (Nat.le_refl _) (.cells #[] 26)) d5
          have f6 := below_cell ((Below.refl wq.heap.size wq).alloc (Nat.le_refl _) (.cells #[] 26)) d6
          clear RW RT h1k h1d BD BE BS BES BSE nE nES nSE sSE sES
          go_wp2
          go_region_law (first | (refine step_append_src _ rfl (.tmp 34) (.tmp 37) 32 rfl wq.heap.size 26 i0 _ 7 48 Try.underlying32 hi hz0 hz1 hz2 rfl (by decide) _ 0 _ rfl HNE.out _ kk _ rfl _ HTE.out hT1.out (by unfold maxLen; omega) (by omega) HBE.out.size ?_; intro A2 c2 wa howna hgra; have HWa : Hid (Below wq.heap.size wq wa) := Lib.hid (HBE.out.grown hgra HBE.out.size (fun g hg => (HNE.out.lt g hg).1)); have d0 := below_cell HWa.out d0; have d1 := below_cell HWa.out d1; have d2 := below_cell HWa.out d2; have d3 := below_cell HWa.out d3; have d4 := below_cell HWa.out d4; have d5 := below_cell HWa.out d5; have d6 := below_cell HWa.out d6; rw [Nat.zero_add, List.nil_append] at howna; have HOa := Lib.hid howna; clear howna hgra) | (refine step_append_src _ rfl (.tmp 34) (.tmp 37) 32 rfl wq.heap.size 26 i0 _ 7 48 Try.underlying32 hi hz0 hz1 hz2 rfl (by decide) _ 0 _ rfl HNES.out _ kk _ rfl _ HTES.out hT1.out (by unfold maxLen; omega) (by omega) HBES.out.size ?_; intro A2 c2 wa howna hgra; have HWa : Hid (Below wq.heap.size wq wa) := Lib.hid (HBES.out.grown hgra HBES.out.size (fun g hg => (HNES.out.lt g hg).1)); have d0 := below_cell HWa.out d0; have d1 := below_cell HWa.out d1; have d2 := below_cell HWa.out d2; have d3 := below_cell HWa.out d3; have d4 := below_cell HWa.out d4; have d5 := below_cell HWa.out d5; have d6 := below_cell HWa.out d6; rw [Nat.zero_add, List.nil_append] at howna; have HOa := Lib.hid howna; have HsA := Lib.hid (reads_grown HsES.out hgra H10.out); clear howna hgra) | (refine step_append_src _ rfl (.tmp 34) (.tmp 37) 32 rfl wq.heap.size 26 i0 _ 7 48 Try.underlying32 hi hz0 hz1 hz2 rfl (by decide) _ 0 _ rfl HNSE.out _ kk _ rfl _ HTSE.out hT1.out (by unfold maxLen; omega) (by omega) HBSE.out.size ?_; intro A2 c2 wa howna hgra; have HWa : Hid (Below wq.heap.size wq wa) := Lib.hid (HBSE.out.grown hgra HBSE.out.size (fun g hg => (HNSE.out.lt g hg).1)); have d0 := below_cell HWa.out d0; have d1 := below_cell HWa.out d1; have d2 := below_cell HWa.out d2; have d3 := below_cell HWa.out d3; have d4 := below_cell HWa.out d4; have d5 := below_cell HWa.out d5; have d6 := below_cell HWa.out d6; rw [Nat.zero_add, List.nil_append] at howna; have HOa := Lib.hid howna; have HsA := Lib.hid (reads_grown HsSE.out hgra H01.out); clear howna hgra) | (refine step_append_src _ rfl (.tmp 38) (.tmp 40) 32 rfl wq.heap.size 26 i0 _ 7 48 Try.underlying32 hi hz0 hz1 hz2 rfl (by decide) _ kk _ rfl HOa.out _ 1 1 rfl s.cells HsA.out (ones_of s) (by unfold maxLen; omega) (by omega) HWa.out.size ?_; intro A3 c3 wb hownb hgrb; have HWb : Hid (Below wq.heap.size wq wb) := Lib.hid (HWa.out.grown hgrb HWa.out.size (fun g hg => (HOa.out.lt g hg).1)); have HOb := Lib.hid hownb; clear hownb hgrb) | (refine step_append_src _ rfl (.tmp 38) (.tmp 40) 32 rfl wq.heap.size 26 i0 _ 7 48 Try.underlying32 hi hz0 hz1 hz2 rfl (by decide) _ kk _ rfl (HOa.out.alloc _) _ 1 1 rfl s.cells (reads_new _ _ _ rfl) (ones_of s) (by unfold maxLen; omega) (by omega) (by have := HWa.out.size; simp; omega) ?_; intro A3 c3 wb hownb hgrb; have HWb : Hid (Below wq.heap.size wq wb) := Lib.hid ((HWa.out.alloc HWa.out.size _).grown hgrb (by have := HWa.out.size; simp; omega) (fun g hg => (HOa.out.lt g hg).1)); have HOb := Lib.hid hownb; clear hownb hgrb) | (refine step_append_src _ rfl (.tmp 41) (.tmp 44) 32 rfl wq.heap.size 26 i0 _ 7 48 Try.underlying32 hi hz0 hz1 hz2 rfl (by decide) _ (kk + 1) _ rfl HOb.out _ 0 _ rfl _ (HDr.out.below HWb.out) hT2.out (by unfold maxLen; omega) (by omega) HWb.out.size ?_; intro A4 c4 wc hownc hgrc; have HWc : Hid (Below wq.heap.size wq wc) := Lib.hid (HWb.out.grown hgrc HWb.out.size (fun g hg => (HOb.out.lt g hg).1)); have HOc := Lib.hid hownc; clear hownc hgrc))

          all_goals (
            have HO4 := own_base HOc.out hb'.size
            have hl4 : (insE L kk s).length = kk + 1 + 0 := by simp [insE]; omega
            have e4 : Event.flat (insE L kk s) = (Event.flat L).take (kk * 7) ++ s.cells ++ (Event.flat L).drop (kk * 7) := by
              unfold insE
              rw [Event.flat, Event.flat, flat_drop _ _ Event.len, flat_take _ _ Event.len, List.flatMap_append, List.flatMap_cons, List.append_assoc]
            have hb6 := hb'.trans (HWc.out.mono hb'.size)
            rw [← e4] at HO4
            have HL4 := Lib.hid hl4
            have HO5 := Lib.hid HO4
            clear hl4 e4 HO4
            go_wp2
            go_ret2
            refine ⟨A4, c4, ?_, ?_, hb6⟩
            · show Ending.returned (.tuple #[.slice A4 (kk + 1 + 0) c4, .int .i64 0]) = .returned (.tuple #[.slice A4 (insE L kk s).length c4, .int .i64 0])
              rw [HL4.out]
            · show World.ownsRow _ w.heap.size 26 7 (.slice A4 (insE L kk s).length c4) (insE L kk s).length (Event.flat (insE L kk s))
              rw [HL4.out]
              exact HO5.out)

        · have HDA : Hid (∀ W, Reads W 7 (some ⟨b, off, none⟩) L.length (Event.flat L) → Reads W 7 (some ⟨b, off + kk * 7, none⟩) (L.length - kk) ((Event.flat L).drop (kk * 7))) := fun W h => h.drop hk
          have RW : Reads wq 7 (some ⟨b, off, none⟩) L.length (Event.flat L) := HA.out.below hb'
          have RT := RW.take hk
          have HDr : Hid (Reads wq 7 (some ⟨b, off + kk * 7, none⟩) (L.length - kk) ((Event.flat L).drop (kk * 7))) := HDA.out _ RW
          have h1k : ∀ u ∈ (Event.flat L).take (kk * 7), u.oneCell' = true := by rw [Event.flat, flat_take _ _ Event.len]; exact Event.ones _
          have h1d : ∀ u ∈ (Event.flat L).drop (kk * 7), u.oneCell' = true := by rw [Event.flat, flat_drop _ _ Event.len]; exact Event.ones _
          have hT1 := Lib.hid h1k
          have hT2 := Lib.hid h1d
          have BD : Below wq.heap.size wq wq.drew := (Below.refl _ _).drew
          have BE : Below wq.heap.size wq (wq.drew.alloc (.cells #[] 26)) := BD.alloc (Nat.le_refl _) _
          have BS : Below wq.heap.size wq (wq.drew.alloc (.cells #[.int .i64 s.day, .int .i64 s.kind, .string s.interest, .int .i64 s.amount, .bool s.peril, .bool s.voluntary, .bool s.reasonable] 26)) := BD.alloc (Nat.le_refl _) _
          have BES : Below wq.heap.size wq ((wq.drew.alloc (.cells #[] 26)).alloc (.cells #[.int .i64 s.day, .int .i64 s.kind, .string s.interest, .int .i64 s.amount, .bool s.peril, .bool s.voluntary, .bool s.reasonable] 26)) := BE.alloc BE.size _
          have BSE : Below wq.heap.size wq ((wq.drew.alloc (.cells #[.int .i64 s.day, .int .i64 s.kind, .string s.interest, .int .i64 s.amount, .bool s.peril, .bool s.voluntary, .bool s.reasonable] 26)).alloc (.cells #[] 26)) := BS.alloc BS.size _
          have nE : (wq.drew.alloc (.cells #[] 26)).ownsRow wq.heap.size 26 7 (.slice (some ⟨wq.heap.size, 0, none⟩) 0 0) 0 [] := own_new wq.drew _ _ _ (Nat.le_refl _)
          have nES : ((wq.drew.alloc (.cells #[] 26)).alloc (.cells #[.int .i64 s.day, .int .i64 s.kind, .string s.interest, .int .i64 s.amount, .bool s.peril, .bool s.voluntary, .bool s.reasonable] 26)).ownsRow wq.heap.size 26 7 (.slice (some ⟨wq.heap.size, 0, none⟩) 0 0) 0 [] := nE.alloc _
          have nSE : ((wq.drew.alloc (.cells #[.int .i64 s.day, .int .i64 s.kind, .string s.interest, .int .i64 s.amount, .bool s.peril, .bool s.voluntary, .bool s.reasonable] 26)).alloc (.cells #[] 26)).ownsRow wq.heap.size 26 7 (.slice (some ⟨wq.heap.size + 1, 0, none⟩) 0 0) 0 [] := by
            have := own_new (wq.drew.alloc (.cells #[.int .i64 s.day, .int .i64 s.kind, .string s.interest, .int .i64 s.amount, .bool s.peril, .bool s.voluntary, .bool s.reasonable] 26)) wq.heap.size 26 7 BS.size
            rw [World.size_alloc] at this
            exact this
          have sSE : Reads ((wq.drew.alloc (.cells #[.int .i64 s.day, .int .i64 s.kind, .string s.interest, .int .i64 s.amount, .bool s.peril, .bool s.voluntary, .bool s.reasonable] 26)).alloc (.cells #[] 26)) 7 (some ⟨wq.heap.size, 0, none⟩) 1 s.cells := Reads.below (reads_new wq.drew #[.int .i64 s.day, .int .i64 s.kind, .string s.interest, .int .i64 s.amount, .bool s.peril, .bool s.voluntary, .bool s.reasonable] 26 rfl) ((Below.refl _ _).alloc (Nat.le_refl _) _)
          have sES : Reads ((wq.drew.alloc (.cells #[] 26)).alloc (.cells #[.int .i64 s.day, .int .i64 s.kind, .string s.interest, .int .i64 s.amount, .bool s.peril, .bool s.voluntary, .bool s.reasonable] 26)) 7 (some ⟨wq.heap.size + 1, 0, none⟩) 1 s.cells := by
            have := reads_new (wq.drew.alloc (.cells #[] 26)) #[.int .i64 s.day, .int .i64 s.kind, .string s.interest, .int .i64 s.amount, .bool s.peril, .bool s.voluntary, .bool s.reasonable] 26 (size := 7) rfl
            rw [World.size_alloc] at this
            exact this
          have HTE := Lib.hid (RT.below BE)
          have HTES := Lib.hid (RT.below BES)
          have HTSE := Lib.hid (RT.below BSE)
          have HBE := Lib.hid BE
          have HBES := Lib.hid BES
          have HBSE := Lib.hid BSE
          have HNE := Lib.hid nE
          have HNES := Lib.hid nES
          have HNSE := Lib.hid nSE
          have HsSE := Lib.hid sSE
          have HsES := Lib.hid sES
          have H01 : Hid (some wq.heap.size ≠ some (wq.heap.size + 1)) := by unfold Hid; simp
          have H10 : Hid (some (wq.heap.size + 1) ≠ some wq.heap.size) := by unfold Hid; simp
          have f0 := below_cell ((Below.refl wq.heap.size wq).alloc (Nat.le_refl _) (.cells #[] 26)) d0
          have f1 := below_cell ((Below.refl wq.heap.size wq).alloc (Nat.le_refl _) (.cells #[] 26)) d1
          have f2 := below_cell ((Below.refl wq.heap.size wq).alloc (Nat.le_refl _) (.cells #[] 26)) d2
          have f3 := below_cell ((Below.refl wq.heap.size wq).alloc (Nat.le_refl _) (.cells #[] 26)) d3
          have f4 := below_cell ((Below.refl wq.heap.size wq).alloc (Nat.le_refl _) (.cells #[] 26)) d4
          have f5 := below_cell ((Below.refl wq.heap.size wq).alloc (Nat.le_refl _) (.cells #[] 26)) d5
          have f6 := below_cell ((Below.refl wq.heap.size wq).alloc (Nat.le_refl _) (.cells #[] 26)) d6
          clear RW RT h1k h1d BD BE BS BES BSE nE nES nSE sSE sES
          go_wp2
          go_region_law (first | (refine step_append_src _ rfl (.tmp 34) (.tmp 37) 32 rfl wq.heap.size 26 i0 _ 7 48 Try.underlying32 hi hz0 hz1 hz2 rfl (by decide) _ 0 _ rfl HNE.out _ kk _ rfl _ HTE.out hT1.out (by unfold maxLen; omega) (by omega) HBE.out.size ?_; intro A2 c2 wa howna hgra; have HWa : Hid (Below wq.heap.size wq wa) := Lib.hid (HBE.out.grown hgra HBE.out.size (fun g hg => (HNE.out.lt g hg).1)); have d0 := below_cell HWa.out d0; have d1 := below_cell HWa.out d1; have d2 := below_cell HWa.out d2; have d3 := below_cell HWa.out d3; have d4 := below_cell HWa.out d4; have d5 := below_cell HWa.out d5; have d6 := below_cell HWa.out d6; rw [Nat.zero_add, List.nil_append] at howna; have HOa := Lib.hid howna; clear howna hgra) | (refine step_append_src _ rfl (.tmp 34) (.tmp 37) 32 rfl wq.heap.size 26 i0 _ 7 48 Try.underlying32 hi hz0 hz1 hz2 rfl (by decide) _ 0 _ rfl HNES.out _ kk _ rfl _ HTES.out hT1.out (by unfold maxLen; omega) (by omega) HBES.out.size ?_; intro A2 c2 wa howna hgra; have HWa : Hid (Below wq.heap.size wq wa) := Lib.hid (HBES.out.grown hgra HBES.out.size (fun g hg => (HNES.out.lt g hg).1)); have d0 := below_cell HWa.out d0; have d1 := below_cell HWa.out d1; have d2 := below_cell HWa.out d2; have d3 := below_cell HWa.out d3; have d4 := below_cell HWa.out d4; have d5 := below_cell HWa.out d5; have d6 := below_cell HWa.out d6; rw [Nat.zero_add, List.nil_append] at howna; have HOa := Lib.hid howna; have HsA := Lib.hid (reads_grown HsES.out hgra H10.out); clear howna hgra) | (refine step_append_src _ rfl (.tmp 34) (.tmp 37) 32 rfl wq.heap.size 26 i0 _ 7 48 Try.underlying32 hi hz0 hz1 hz2 rfl (by decide) _ 0 _ rfl HNSE.out _ kk _ rfl _ HTSE.out hT1.out (by unfold maxLen; omega) (by omega) HBSE.out.size ?_; intro A2 c2 wa howna hgra; have HWa : Hid (Below wq.heap.size wq wa) := Lib.hid (HBSE.out.grown hgra HBSE.out.size (fun g hg => (HNSE.out.lt g hg).1)); have d0 := below_cell HWa.out d0; have d1 := below_cell HWa.out d1; have d2 := below_cell HWa.out d2; have d3 := below_cell HWa.out d3; have d4 := below_cell HWa.out d4; have d5 := below_cell HWa.out d5; have d6 := below_cell HWa.out d6; rw [Nat.zero_add, List.nil_append] at howna; have HOa := Lib.hid howna; have HsA := Lib.hid (reads_grown HsSE.out hgra H01.out); clear howna hgra) | (refine step_append_src _ rfl (.tmp 38) (.tmp 40) 32 rfl wq.heap.size 26 i0 _ 7 48 Try.underlying32 hi hz0 hz1 hz2 rfl (by decide) _ kk _ rfl HOa.out _ 1 1 rfl s.cells HsA.out (ones_of s) (by unfold maxLen; omega) (by omega) HWa.out.size ?_; intro A3 c3 wb hownb hgrb; have HWb : Hid (Below wq.heap.size wq wb) := Lib.hid (HWa.out.grown hgrb HWa.out.size (fun g hg => (HOa.out.lt g hg).1)); have HOb := Lib.hid hownb; clear hownb hgrb) | (refine step_append_src _ rfl (.tmp 38) (.tmp 40) 32 rfl wq.heap.size 26 i0 _ 7 48 Try.underlying32 hi hz0 hz1 hz2 rfl (by decide) _ kk _ rfl (HOa.out.alloc _) _ 1 1 rfl s.cells (reads_new _ _ _ rfl) (ones_of s) (by unfold maxLen; omega) (by omega) (by have := HWa.out.size; simp; omega) ?_; intro A3 c3 wb hownb hgrb; have HWb : Hid (Below wq.heap.size wq wb) := Lib.hid ((HWa.out.alloc HWa.out.size _).grown hgrb (by have := HWa.out.size; simp; omega) (fun g hg => (HOa.out.lt g hg).1)); have HOb := Lib.hid hownb; clear hownb hgrb) | (refine step_append_src _ rfl (.tmp 41) (.tmp 44) 32 rfl wq.heap.size 26 i0 _ 7 48 Try.underlying32 hi hz0 hz1 hz2 rfl (by decide) _ (kk + 1) _ rfl HOb.out _ (L.length - kk) _ rfl _ (HDr.out.below HWb.out) hT2.out (by unfold maxLen; omega) (by omega) HWb.out.size ?_; intro A4 c4 wc hownc hgrc; have HWc : Hid (Below wq.heap.size wq wc) := Lib.hid (HWb.out.grown hgrc HWb.out.size (fun g hg => (HOb.out.lt g hg).1)); have HOc := Lib.hid hownc; clear hownc hgrc))

          all_goals (
            have HO4 := own_base HOc.out hb'.size
            have hl4 : (insE L kk s).length = kk + 1 + (L.length - kk) := by simp [insE]; omega
            have e4 : Event.flat (insE L kk s) = (Event.flat L).take (kk * 7) ++ s.cells ++ (Event.flat L).drop (kk * 7) := by
              unfold insE
              rw [Event.flat, Event.flat, flat_drop _ _ Event.len, flat_take _ _ Event.len, List.flatMap_append, List.flatMap_cons, List.append_assoc]
            have hb6 := hb'.trans (HWc.out.mono hb'.size)
            rw [← e4] at HO4
            have HL4 := Lib.hid hl4
            have HO5 := Lib.hid HO4
            clear hl4 e4 HO4
            go_wp2
            go_ret2
            refine ⟨A4, c4, ?_, ?_, hb6⟩
            · show Ending.returned (.tuple #[.slice A4 (kk + 1 + (L.length - kk)) c4, .int .i64 0]) = .returned (.tuple #[.slice A4 (insE L kk s).length c4, .int .i64 0])
              rw [HL4.out]
            · show World.ownsRow _ w.heap.size 26 7 (.slice A4 (insE L kk s).length c4) (insE L kk s).length (Event.flat (insE L kk s))
              rw [HL4.out]
              exact HO5.out)


      · have hg : decide ((kk : Int) < (L.length : Int)) = false := by simp; omega
        go_wp2
        refine wp_region_bw (by kernel_rfl) (by kernel_rfl) ?_
        repeat (go_big_quiet_step (fail))
        refine wpQuiet_nil ?_
        intro wq hx
        have hq := bw_out hx
        clear hx e1'
        have hq2 := hb1.trans (hq.mono hb1.size)
        have hb' := hb2.trans (hq2.mono hb2.size)
        have d0 := below_cell hq2 E0.out
        have d1 := below_cell hq2 E1.out
        have d2 := below_cell hq2 E2.out
        have d3 := below_cell hq2 E3.out
        have d4 := below_cell hq2 E4.out
        have d5 := below_cell hq2 E5.out
        have d6 := below_cell hq2 E6.out
        clear hq
        have hb0 := hb'.size
        have hb0' : w.heap.size < wq.heap.size := World.block_lt_of_cell? _ _ d0
        by_cases hne : cap = kk
        · have HDA : Hid (∀ W, Reads W 7 (some ⟨b, off, none⟩) L.length (Event.flat L) → Reads W 7 (some ⟨b, off, none⟩) 0 ((Event.flat L).drop (kk * 7))) := fun W h => drop_end h (by omega)
          have hne' := hne.symm
          clear hne
          subst hne'
          have RW : Reads wq 7 (some ⟨b, off, none⟩) L.length (Event.flat L) := HA.out.below hb'
          have RT := RW.take hk
          have HDr : Hid (Reads wq 7 (some ⟨b, off, none⟩) 0 ((Event.flat L).drop (kk * 7))) := HDA.out _ RW
          have h1k : ∀ u ∈ (Event.flat L).take (kk * 7), u.oneCell' = true := by rw [Event.flat, flat_take _ _ Event.len]; exact Event.ones _
          have h1d : ∀ u ∈ (Event.flat L).drop (kk * 7), u.oneCell' = true := by rw [Event.flat, flat_drop _ _ Event.len]; exact Event.ones _
          have hT1 := Lib.hid h1k
          have hT2 := Lib.hid h1d
          have BD : Below wq.heap.size wq wq.drew := (Below.refl _ _).drew
          have BE : Below wq.heap.size wq (wq.drew.alloc (.cells #[] 26)) := BD.alloc (Nat.le_refl _) _
          have BS : Below wq.heap.size wq (wq.drew.alloc (.cells #[.int .i64 s.day, .int .i64 s.kind, .string s.interest, .int .i64 s.amount, .bool s.peril, .bool s.voluntary, .bool s.reasonable] 26)) := BD.alloc (Nat.le_refl _) _
          have BES : Below wq.heap.size wq ((wq.drew.alloc (.cells #[] 26)).alloc (.cells #[.int .i64 s.day, .int .i64 s.kind, .string s.interest, .int .i64 s.amount, .bool s.peril, .bool s.voluntary, .bool s.reasonable] 26)) := BE.alloc BE.size _
          have BSE : Below wq.heap.size wq ((wq.drew.alloc (.cells #[.int .i64 s.day, .int .i64 s.kind, .string s.interest, .int .i64 s.amount, .bool s.peril, .bool s.voluntary, .bool s.reasonable] 26)).alloc (.cells #[] 26)) := BS.alloc BS.size _
          have nE : (wq.drew.alloc (.cells #[] 26)).ownsRow wq.heap.size 26 7 (.slice (some ⟨wq.heap.size, 0, none⟩) 0 0) 0 [] := own_new wq.drew _ _ _ (Nat.le_refl _)
          have nES : ((wq.drew.alloc (.cells #[] 26)).alloc (.cells #[.int .i64 s.day, .int .i64 s.kind, .string s.interest, .int .i64 s.amount, .bool s.peril, .bool s.voluntary, .bool s.reasonable] 26)).ownsRow wq.heap.size 26 7 (.slice (some ⟨wq.heap.size, 0, none⟩) 0 0) 0 [] := nE.alloc _
          have nSE : ((wq.drew.alloc (.cells #[.int .i64 s.day, .int .i64 s.kind, .string s.interest, .int .i64 s.amount, .bool s.peril, .bool s.voluntary, .bool s.reasonable] 26)).alloc (.cells #[] 26)).ownsRow wq.heap.size 26 7 (.slice (some ⟨wq.heap.size + 1, 0, none⟩) 0 0) 0 [] := by
            have := own_new (wq.drew.alloc (.cells #[.int .i64 s.day, .int .i64 s.kind, .string s.interest, .int .i64 s.amount, .bool s.peril, .bool s.voluntary, .bool s.reasonable] 26)) wq.heap.size 26 7 BS.size
            rw [World.size_alloc] at this
            exact this
          have sSE : Reads ((wq.drew.alloc (.cells #[.int .i64 s.day, .int .i64 s.kind, .string s.interest, .int .i64 s.amount, .bool s.peril, .bool s.voluntary, .bool s.reasonable] 26)).alloc (.cells #[] 26)) 7 (some ⟨wq.heap.size, 0, none⟩) 1 s.cells := Reads.below (reads_new wq.drew #[.int .i64 s.day, .int .i64 s.kind, .string s.interest, .int .i64 s.amount, .bool s.peril, .bool s.voluntary, .bool s.reasonable] 26 rfl) ((Below.refl _ _).alloc (Nat.le_refl _) _)
          have sES : Reads ((wq.drew.alloc (.cells #[] 26)).alloc (.cells #[.int .i64 s.day, .int .i64 s.kind, .string s.interest, .int .i64 s.amount, .bool s.peril, .bool s.voluntary, .bool s.reasonable] 26)) 7 (some ⟨wq.heap.size + 1, 0, none⟩) 1 s.cells := by
            have := reads_new (wq.drew.alloc (.cells #[] 26)) #[.int .i64 s.day, .int .i64 s.kind, .string s.interest, .int .i64 s.amount, .bool s.peril, .bool s.voluntary, .bool s.reasonable] 26 (size := 7) rfl
            rw [World.size_alloc] at this
            exact this
          have HTE := Lib.hid (RT.below BE)
          have HTES := Lib.hid (RT.below BES)
          have HTSE := Lib.hid (RT.below BSE)
          have HBE := Lib.hid BE
          have HBES := Lib.hid BES
          have HBSE := Lib.hid BSE
          have HNE := Lib.hid nE
          have HNES := Lib.hid nES
          have HNSE := Lib.hid nSE
          have HsSE := Lib.hid sSE
          have HsES := Lib.hid sES
          have H01 : Hid (some wq.heap.size ≠ some (wq.heap.size + 1)) := by unfold Hid; simp
          have H10 : Hid (some (wq.heap.size + 1) ≠ some wq.heap.size) := by unfold Hid; simp
          have f0 := below_cell ((Below.refl wq.heap.size wq).alloc (Nat.le_refl _) (.cells #[] 26)) d0
          have f1 := below_cell ((Below.refl wq.heap.size wq).alloc (Nat.le_refl _) (.cells #[] 26)) d1
          have f2 := below_cell ((Below.refl wq.heap.size wq).alloc (Nat.le_refl _) (.cells #[] 26)) d2
          have f3 := below_cell ((Below.refl wq.heap.size wq).alloc (Nat.le_refl _) (.cells #[] 26)) d3
          have f4 := below_cell ((Below.refl wq.heap.size wq).alloc (Nat.le_refl _) (.cells #[] 26)) d4
          have f5 := below_cell ((Below.refl wq.heap.size wq).alloc (Nat.le_refl _) (.cells #[] 26)) d5
          have f6 := below_cell ((Below.refl wq.heap.size wq).alloc (Nat.le_refl _) (.cells #[] 26)) d6
          clear RW RT h1k h1d BD BE BS BES BSE nE nES nSE sSE sES
          go_wp2
          go_region_law (first | (refine step_append_src _ rfl (.tmp 34) (.tmp 37) 32 rfl wq.heap.size 26 i0 _ 7 48 Try.underlying32 hi hz0 hz1 hz2 rfl (by decide) _ 0 _ rfl HNE.out _ kk _ rfl _ HTE.out hT1.out (by unfold maxLen; omega) (by omega) HBE.out.size ?_; intro A2 c2 wa howna hgra; have HWa : Hid (Below wq.heap.size wq wa) := Lib.hid (HBE.out.grown hgra HBE.out.size (fun g hg => (HNE.out.lt g hg).1)); have d0 := below_cell HWa.out d0; have d1 := below_cell HWa.out d1; have d2 := below_cell HWa.out d2; have d3 := below_cell HWa.out d3; have d4 := below_cell HWa.out d4; have d5 := below_cell HWa.out d5; have d6 := below_cell HWa.out d6; rw [Nat.zero_add, List.nil_append] at howna; have HOa := Lib.hid howna; clear howna hgra) | (refine step_append_src _ rfl (.tmp 34) (.tmp 37) 32 rfl wq.heap.size 26 i0 _ 7 48 Try.underlying32 hi hz0 hz1 hz2 rfl (by decide) _ 0 _ rfl HNES.out _ kk _ rfl _ HTES.out hT1.out (by unfold maxLen; omega) (by omega) HBES.out.size ?_; intro A2 c2 wa howna hgra; have HWa : Hid (Below wq.heap.size wq wa) := Lib.hid (HBES.out.grown hgra HBES.out.size (fun g hg => (HNES.out.lt g hg).1)); have d0 := below_cell HWa.out d0; have d1 := below_cell HWa.out d1; have d2 := below_cell HWa.out d2; have d3 := below_cell HWa.out d3; have d4 := below_cell HWa.out d4; have d5 := below_cell HWa.out d5; have d6 := below_cell HWa.out d6; rw [Nat.zero_add, List.nil_append] at howna; have HOa := Lib.hid howna; have HsA := Lib.hid (reads_grown HsES.out hgra H10.out); clear howna hgra) | (refine step_append_src _ rfl (.tmp 34) (.tmp 37) 32 rfl wq.heap.size 26 i0 _ 7 48 Try.underlying32 hi hz0 hz1 hz2 rfl (by decide) _ 0 _ rfl HNSE.out _ kk _ rfl _ HTSE.out hT1.out (by unfold maxLen; omega) (by omega) HBSE.out.size ?_; intro A2 c2 wa howna hgra; have HWa : Hid (Below wq.heap.size wq wa) := Lib.hid (HBSE.out.grown hgra HBSE.out.size (fun g hg => (HNSE.out.lt g hg).1)); have d0 := below_cell HWa.out d0; have d1 := below_cell HWa.out d1; have d2 := below_cell HWa.out d2; have d3 := below_cell HWa.out d3; have d4 := below_cell HWa.out d4; have d5 := below_cell HWa.out d5; have d6 := below_cell HWa.out d6; rw [Nat.zero_add, List.nil_append] at howna; have HOa := Lib.hid howna; have HsA := Lib.hid (reads_grown HsSE.out hgra H01.out); clear howna hgra) | (refine step_append_src _ rfl (.tmp 38) (.tmp 40) 32 rfl wq.heap.size 26 i0 _ 7 48 Try.underlying32 hi hz0 hz1 hz2 rfl (by decide) _ kk _ rfl HOa.out _ 1 1 rfl s.cells HsA.out (ones_of s) (by unfold maxLen; omega) (by omega) HWa.out.size ?_; intro A3 c3 wb hownb hgrb; have HWb : Hid (Below wq.heap.size wq wb) := Lib.hid (HWa.out.grown hgrb HWa.out.size (fun g hg => (HOa.out.lt g hg).1)); have HOb := Lib.hid hownb; clear hownb hgrb) | (refine step_append_src _ rfl (.tmp 38) (.tmp 40) 32 rfl wq.heap.size 26 i0 _ 7 48 Try.underlying32 hi hz0 hz1 hz2 rfl (by decide) _ kk _ rfl (HOa.out.alloc _) _ 1 1 rfl s.cells (reads_new _ _ _ rfl) (ones_of s) (by unfold maxLen; omega) (by omega) (by have := HWa.out.size; simp; omega) ?_; intro A3 c3 wb hownb hgrb; have HWb : Hid (Below wq.heap.size wq wb) := Lib.hid ((HWa.out.alloc HWa.out.size _).grown hgrb (by have := HWa.out.size; simp; omega) (fun g hg => (HOa.out.lt g hg).1)); have HOb := Lib.hid hownb; clear hownb hgrb) | (refine step_append_src _ rfl (.tmp 41) (.tmp 44) 32 rfl wq.heap.size 26 i0 _ 7 48 Try.underlying32 hi hz0 hz1 hz2 rfl (by decide) _ (kk + 1) _ rfl HOb.out _ 0 _ rfl _ (HDr.out.below HWb.out) hT2.out (by unfold maxLen; omega) (by omega) HWb.out.size ?_; intro A4 c4 wc hownc hgrc; have HWc : Hid (Below wq.heap.size wq wc) := Lib.hid (HWb.out.grown hgrc HWb.out.size (fun g hg => (HOb.out.lt g hg).1)); have HOc := Lib.hid hownc; clear hownc hgrc))

          all_goals (
            have HO4 := own_base HOc.out hb'.size
            have hl4 : (insE L kk s).length = kk + 1 + 0 := by simp [insE]; omega
            have e4 : Event.flat (insE L kk s) = (Event.flat L).take (kk * 7) ++ s.cells ++ (Event.flat L).drop (kk * 7) := by
              unfold insE
              rw [Event.flat, Event.flat, flat_drop _ _ Event.len, flat_take _ _ Event.len, List.flatMap_append, List.flatMap_cons, List.append_assoc]
            have hb6 := hb'.trans (HWc.out.mono hb'.size)
            rw [← e4] at HO4
            have HL4 := Lib.hid hl4
            have HO5 := Lib.hid HO4
            clear hl4 e4 HO4
            go_wp2
            go_ret2
            refine ⟨A4, c4, ?_, ?_, hb6⟩
            · show Ending.returned (.tuple #[.slice A4 (kk + 1 + 0) c4, .int .i64 0]) = .returned (.tuple #[.slice A4 (insE L kk s).length c4, .int .i64 0])
              rw [HL4.out]
            · show World.ownsRow _ w.heap.size 26 7 (.slice A4 (insE L kk s).length c4) (insE L kk s).length (Event.flat (insE L kk s))
              rw [HL4.out]
              exact HO5.out)

        · have HDA : Hid (∀ W, Reads W 7 (some ⟨b, off, none⟩) L.length (Event.flat L) → Reads W 7 (some ⟨b, off + kk * 7, none⟩) (L.length - kk) ((Event.flat L).drop (kk * 7))) := fun W h => h.drop hk
          have RW : Reads wq 7 (some ⟨b, off, none⟩) L.length (Event.flat L) := HA.out.below hb'
          have RT := RW.take hk
          have HDr : Hid (Reads wq 7 (some ⟨b, off + kk * 7, none⟩) (L.length - kk) ((Event.flat L).drop (kk * 7))) := HDA.out _ RW
          have h1k : ∀ u ∈ (Event.flat L).take (kk * 7), u.oneCell' = true := by rw [Event.flat, flat_take _ _ Event.len]; exact Event.ones _
          have h1d : ∀ u ∈ (Event.flat L).drop (kk * 7), u.oneCell' = true := by rw [Event.flat, flat_drop _ _ Event.len]; exact Event.ones _
          have hT1 := Lib.hid h1k
          have hT2 := Lib.hid h1d
          have BD : Below wq.heap.size wq wq.drew := (Below.refl _ _).drew
          have BE : Below wq.heap.size wq (wq.drew.alloc (.cells #[] 26)) := BD.alloc (Nat.le_refl _) _
          have BS : Below wq.heap.size wq (wq.drew.alloc (.cells #[.int .i64 s.day, .int .i64 s.kind, .string s.interest, .int .i64 s.amount, .bool s.peril, .bool s.voluntary, .bool s.reasonable] 26)) := BD.alloc (Nat.le_refl _) _
          have BES : Below wq.heap.size wq ((wq.drew.alloc (.cells #[] 26)).alloc (.cells #[.int .i64 s.day, .int .i64 s.kind, .string s.interest, .int .i64 s.amount, .bool s.peril, .bool s.voluntary, .bool s.reasonable] 26)) := BE.alloc BE.size _
          have BSE : Below wq.heap.size wq ((wq.drew.alloc (.cells #[.int .i64 s.day, .int .i64 s.kind, .string s.interest, .int .i64 s.amount, .bool s.peril, .bool s.voluntary, .bool s.reasonable] 26)).alloc (.cells #[] 26)) := BS.alloc BS.size _
          have nE : (wq.drew.alloc (.cells #[] 26)).ownsRow wq.heap.size 26 7 (.slice (some ⟨wq.heap.size, 0, none⟩) 0 0) 0 [] := own_new wq.drew _ _ _ (Nat.le_refl _)
          have nES : ((wq.drew.alloc (.cells #[] 26)).alloc (.cells #[.int .i64 s.day, .int .i64 s.kind, .string s.interest, .int .i64 s.amount, .bool s.peril, .bool s.voluntary, .bool s.reasonable] 26)).ownsRow wq.heap.size 26 7 (.slice (some ⟨wq.heap.size, 0, none⟩) 0 0) 0 [] := nE.alloc _
          have nSE : ((wq.drew.alloc (.cells #[.int .i64 s.day, .int .i64 s.kind, .string s.interest, .int .i64 s.amount, .bool s.peril, .bool s.voluntary, .bool s.reasonable] 26)).alloc (.cells #[] 26)).ownsRow wq.heap.size 26 7 (.slice (some ⟨wq.heap.size + 1, 0, none⟩) 0 0) 0 [] := by
            have := own_new (wq.drew.alloc (.cells #[.int .i64 s.day, .int .i64 s.kind, .string s.interest, .int .i64 s.amount, .bool s.peril, .bool s.voluntary, .bool s.reasonable] 26)) wq.heap.size 26 7 BS.size
            rw [World.size_alloc] at this
            exact this
          have sSE : Reads ((wq.drew.alloc (.cells #[.int .i64 s.day, .int .i64 s.kind, .string s.interest, .int .i64 s.amount, .bool s.peril, .bool s.voluntary, .bool s.reasonable] 26)).alloc (.cells #[] 26)) 7 (some ⟨wq.heap.size, 0, none⟩) 1 s.cells := Reads.below (reads_new wq.drew #[.int .i64 s.day, .int .i64 s.kind, .string s.interest, .int .i64 s.amount, .bool s.peril, .bool s.voluntary, .bool s.reasonable] 26 rfl) ((Below.refl _ _).alloc (Nat.le_refl _) _)
          have sES : Reads ((wq.drew.alloc (.cells #[] 26)).alloc (.cells #[.int .i64 s.day, .int .i64 s.kind, .string s.interest, .int .i64 s.amount, .bool s.peril, .bool s.voluntary, .bool s.reasonable] 26)) 7 (some ⟨wq.heap.size + 1, 0, none⟩) 1 s.cells := by
            have := reads_new (wq.drew.alloc (.cells #[] 26)) #[.int .i64 s.day, .int .i64 s.kind, .string s.interest, .int .i64 s.amount, .bool s.peril, .bool s.voluntary, .bool s.reasonable] 26 (size := 7) rfl
            rw [World.size_alloc] at this
            exact this
          have HTE := Lib.hid (RT.below BE)
          have HTES := Lib.hid (RT.below BES)
          have HTSE := Lib.hid (RT.below BSE)
          have HBE := Lib.hid BE
          have HBES := Lib.hid BES
          have HBSE := Lib.hid BSE
          have HNE := Lib.hid nE
          have HNES := Lib.hid nES
          have HNSE := Lib.hid nSE
          have HsSE := Lib.hid sSE
          have HsES := Lib.hid sES
          have H01 : Hid (some wq.heap.size ≠ some (wq.heap.size + 1)) := by unfold Hid; simp
          have H10 : Hid (some (wq.heap.size + 1) ≠ some wq.heap.size) := by unfold Hid; simp
          have f0 := below_cell ((Below.refl wq.heap.size wq).alloc (Nat.le_refl _) (.cells #[] 26)) d0
          have f1 := below_cell ((Below.refl wq.heap.size wq).alloc (Nat.le_refl _) (.cells #[] 26)) d1
          have f2 := below_cell ((Below.refl wq.heap.size wq).alloc (Nat.le_refl _) (.cells #[] 26)) d2
          have f3 := below_cell ((Below.refl wq.heap.size wq).alloc (Nat.le_refl _) (.cells #[] 26)) d3
          have f4 := below_cell ((Below.refl wq.heap.size wq).alloc (Nat.le_refl _) (.cells #[] 26)) d4
          have f5 := below_cell ((Below.refl wq.heap.size wq).alloc (Nat.le_refl _) (.cells #[] 26)) d5
          have f6 := below_cell ((Below.refl wq.heap.size wq).alloc (Nat.le_refl _) (.cells #[] 26)) d6
          clear RW RT h1k h1d BD BE BS BES BSE nE nES nSE sSE sES
          go_wp2
          go_region_law (first | (refine step_append_src _ rfl (.tmp 34) (.tmp 37) 32 rfl wq.heap.size 26 i0 _ 7 48 Try.underlying32 hi hz0 hz1 hz2 rfl (by decide) _ 0 _ rfl HNE.out _ kk _ rfl _ HTE.out hT1.out (by unfold maxLen; omega) (by omega) HBE.out.size ?_; intro A2 c2 wa howna hgra; have HWa : Hid (Below wq.heap.size wq wa) := Lib.hid (HBE.out.grown hgra HBE.out.size (fun g hg => (HNE.out.lt g hg).1)); have d0 := below_cell HWa.out d0; have d1 := below_cell HWa.out d1; have d2 := below_cell HWa.out d2; have d3 := below_cell HWa.out d3; have d4 := below_cell HWa.out d4; have d5 := below_cell HWa.out d5; have d6 := below_cell HWa.out d6; rw [Nat.zero_add, List.nil_append] at howna; have HOa := Lib.hid howna; clear howna hgra) | (refine step_append_src _ rfl (.tmp 34) (.tmp 37) 32 rfl wq.heap.size 26 i0 _ 7 48 Try.underlying32 hi hz0 hz1 hz2 rfl (by decide) _ 0 _ rfl HNES.out _ kk _ rfl _ HTES.out hT1.out (by unfold maxLen; omega) (by omega) HBES.out.size ?_; intro A2 c2 wa howna hgra; have HWa : Hid (Below wq.heap.size wq wa) := Lib.hid (HBES.out.grown hgra HBES.out.size (fun g hg => (HNES.out.lt g hg).1)); have d0 := below_cell HWa.out d0; have d1 := below_cell HWa.out d1; have d2 := below_cell HWa.out d2; have d3 := below_cell HWa.out d3; have d4 := below_cell HWa.out d4; have d5 := below_cell HWa.out d5; have d6 := below_cell HWa.out d6; rw [Nat.zero_add, List.nil_append] at howna; have HOa := Lib.hid howna; have HsA := Lib.hid (reads_grown HsES.out hgra H10.out); clear howna hgra) | (refine step_append_src _ rfl (.tmp 34) (.tmp 37) 32 rfl wq.heap.size 26 i0 _ 7 48 Try.underlying32 hi hz0 hz1 hz2 rfl (by decide) _ 0 _ rfl HNSE.out _ kk _ rfl _ HTSE.out hT1.out (by unfold maxLen; omega) (by omega) HBSE.out.size ?_; intro A2 c2 wa howna hgra; have HWa : Hid (Below wq.heap.size wq wa) := Lib.hid (HBSE.out.grown hgra HBSE.out.size (fun g hg => (HNSE.out.lt g hg).1)); have d0 := below_cell HWa.out d0; have d1 := below_cell HWa.out d1; have d2 := below_cell HWa.out d2; have d3 := below_cell HWa.out d3; have d4 := below_cell HWa.out d4; have d5 := below_cell HWa.out d5; have d6 := below_cell HWa.out d6; rw [Nat.zero_add, List.nil_append] at howna; have HOa := Lib.hid howna; have HsA := Lib.hid (reads_grown HsSE.out hgra H01.out); clear howna hgra) | (refine step_append_src _ rfl (.tmp 38) (.tmp 40) 32 rfl wq.heap.size 26 i0 _ 7 48 Try.underlying32 hi hz0 hz1 hz2 rfl (by decide) _ kk _ rfl HOa.out _ 1 1 rfl s.cells HsA.out (ones_of s) (by unfold maxLen; omega) (by omega) HWa.out.size ?_; intro A3 c3 wb hownb hgrb; have HWb : Hid (Below wq.heap.size wq wb) := Lib.hid (HWa.out.grown hgrb HWa.out.size (fun g hg => (HOa.out.lt g hg).1)); have HOb := Lib.hid hownb; clear hownb hgrb) | (refine step_append_src _ rfl (.tmp 38) (.tmp 40) 32 rfl wq.heap.size 26 i0 _ 7 48 Try.underlying32 hi hz0 hz1 hz2 rfl (by decide) _ kk _ rfl (HOa.out.alloc _) _ 1 1 rfl s.cells (reads_new _ _ _ rfl) (ones_of s) (by unfold maxLen; omega) (by omega) (by have := HWa.out.size; simp; omega) ?_; intro A3 c3 wb hownb hgrb; have HWb : Hid (Below wq.heap.size wq wb) := Lib.hid ((HWa.out.alloc HWa.out.size _).grown hgrb (by have := HWa.out.size; simp; omega) (fun g hg => (HOa.out.lt g hg).1)); have HOb := Lib.hid hownb; clear hownb hgrb) | (refine step_append_src _ rfl (.tmp 41) (.tmp 44) 32 rfl wq.heap.size 26 i0 _ 7 48 Try.underlying32 hi hz0 hz1 hz2 rfl (by decide) _ (kk + 1) _ rfl HOb.out _ (L.length - kk) _ rfl _ (HDr.out.below HWb.out) hT2.out (by unfold maxLen; omega) (by omega) HWb.out.size ?_; intro A4 c4 wc hownc hgrc; have HWc : Hid (Below wq.heap.size wq wc) := Lib.hid (HWb.out.grown hgrc HWb.out.size (fun g hg => (HOb.out.lt g hg).1)); have HOc := Lib.hid hownc; clear hownc hgrc))

          all_goals (
            have HO4 := own_base HOc.out hb'.size
            have hl4 : (insE L kk s).length = kk + 1 + (L.length - kk) := by simp [insE]; omega
            have e4 : Event.flat (insE L kk s) = (Event.flat L).take (kk * 7) ++ s.cells ++ (Event.flat L).drop (kk * 7) := by
              unfold insE
              rw [Event.flat, Event.flat, flat_drop _ _ Event.len, flat_take _ _ Event.len, List.flatMap_append, List.flatMap_cons, List.append_assoc]
            have hb6 := hb'.trans (HWc.out.mono hb'.size)
            rw [← e4] at HO4
            have HL4 := Lib.hid hl4
            have HO5 := Lib.hid HO4
            clear hl4 e4 HO4
            go_wp2
            go_ret2
            refine ⟨A4, c4, ?_, ?_, hb6⟩
            · show Ending.returned (.tuple #[.slice A4 (kk + 1 + (L.length - kk)) c4, .int .i64 0]) = .returned (.tuple #[.slice A4 (insE L kk s).length c4, .int .i64 0])
              rw [HL4.out]
            · show World.ownsRow _ w.heap.size 26 7 (.slice A4 (insE L kk s).length c4) (insE L kk s).length (Event.flat (insE L kk s))
              rw [HL4.out]
              exact HO5.out)


theorem AddEvent_any (b off cap : Nat) (L : List Event) (s : Event) (w : World) (hL : Event.At w (some ⟨b, off, none⟩) L) (hs : ∀ s ∈ L, s.tiny) (hs2 : s.tiny) (hlen : L.length ≤ 1048576) (hcap : L.length ≤ cap) (hcm : cap ≤ 9223372036854775807) :
    Calls Try.prog 35 #[.slice (some ⟨b, off, none⟩) L.length cap, s.val] w (Event.MadeC w (addE L s).1 (addE L s).2) := by
  rw [← addE_eq]
  exact AddEvent_impl b off cap L s w hL hs hs2 hlen hcap hcm
end Go.Proofs.Ytfbafdnjjfmhjaa
