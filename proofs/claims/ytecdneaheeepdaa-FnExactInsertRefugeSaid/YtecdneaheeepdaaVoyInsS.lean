/-
  InsertRefuge of the reference.
-/
import Derived.Test.YtecdneaheeepdaaVoyIns
namespace Go.Proofs.Ytecdneaheeepdaa
open Go.RowKit

theorem pos_step {L : List Stop} {s : Stop} {k : Nat} (h : k < L.length) (hp : decide (L[k].inn < s.inn) = true) : insPos (L.drop k) s = insPos (L.drop (k + 1)) s + 1 := by
  rw [List.drop_eq_getElem_cons h]; unfold insPos; rw [List.takeWhile_cons_of_pos (by simpa using hp)]; rfl
theorem pos_stop {L : List Stop} {s : Stop} {k : Nat} (h : k < L.length) (hp : decide (L[k].inn < s.inn) = false) : insPos (L.drop k) s = 0 := by
  rw [List.drop_eq_getElem_cons h]; unfold insPos; rw [List.takeWhile_cons_of_neg (by simpa using hp)]; rfl
theorem pos_end {L : List Stop} {s : Stop} {k : Nat} (h : L.length ≤ k) : insPos (L.drop k) s = 0 := by
  rw [List.drop_eq_nil_of_le h]; rfl
set_option maxHeartbeats 2000000 in
set_option maxRecDepth 100000 in
theorem InsertRefuge_spec (A : Option Addr) (cap : Nat) (L : List Stop) (s : Stop) (w : World) (hL : Stop.At w A L) (hs : ∀ s ∈ L, s.tiny) (hs2 : s.tiny) (hlen : L.length ≤ 1048576) (hcap : L.length ≤ cap) (hcm : cap ≤ 9223372036854775807) :
    Calls Try.prog 27 #[.slice A L.length cap, s.val] w (Stop.MadeC w (insR L s).1 (insR L s).2) := by
  have B1 : Below w.heap.size w (w.alloc (.cells #[.string s.port, .int .i64 s.inn, .int .i64 s.out] 43)) := (Below.refl _ _).alloc (Nat.le_refl _) _
  have D0 := Lib.hid (made_cell w #[.string s.port, .int .i64 s.inn, .int .i64 s.out] 43 0 (.string s.port) rfl)
  have D1 := Lib.hid (made_cell w #[.string s.port, .int .i64 s.inn, .int .i64 s.out] 43 1 (.int .i64 s.inn) rfl)
  have D2 := Lib.hid (made_cell w #[.string s.port, .int .i64 s.inn, .int .i64 s.out] 43 2 (.int .i64 s.out) rfl)
  have HX := Lib.hid (isVoyage_spec A cap L _ (hL.below B1) hs (by omega))
  have HB := Lib.hid B1
  have HA := Lib.hid hL
  have HL := Lib.hid hL.at_
  clear B1 hL
  cases hv : isVoyage L
  · rw [hv] at HX
    rw [insR, hv]
    go_enter Try.func27, Try.ntmps27
    go_wp2_with fail
    refine HX.out.mono ?_
    rintro e w1 ⟨rfl, hb1⟩
    have hb := HB.out.trans (hb1.mono HB.out.size)
    clear hb1
    go_wp2
    go_ret2
    exact Stop.nilC hb
  rw [hv] at HX
  obtain ⟨i0, hi, hz0, hz1, hz2⟩ := info_parts Stop.info
  obtain ⟨res, hres⟩ : ∃ res : List Stop × Int, res = insR L s := ⟨_, rfl⟩
  rw [← hres]
  rw [insR, hv] at hres
  simp only [if_true] at hres
  have HR := Lib.hid hres
  clear hres
  go_enter Try.func27, Try.ntmps27
  go_wp2_with fail
  refine HX.out.mono ?_
  rintro e w1 ⟨rfl, hb1⟩
  have hb := HB.out.trans (hb1.mono HB.out.size)
  have E0 := Lib.hid (below_cell hb1 D0.out)
  have E1 := Lib.hid (below_cell hb1 D1.out)
  have E2 := Lib.hid (below_cell hb1 D2.out)
  clear hb1
  go_wp2
  go_loopw [6] (fun i wr => ∃ k : Nat, k ≤ L.length ∧ i = .int .i64 k ∧ Hid (insPos L s = k + insPos (L.drop k) s) ∧ Below w1.heap.size w1 wr) (fun i _ => L.length - (intOf i).toNat)
  case atStart => exact ⟨0, Nat.zero_le _, rfl, (by simp [Hid]), Below.refl _ _⟩
  case round =>
    obtain ⟨k, hk, rfl, HP, hb1⟩ := hrel
    have hb2 := hb.trans (hb1.mono hb.size)
    have e1 := below_cell hb1 E1.out
    have e1' := fun x : BW wr => x.cell e1
    by_cases hlt : k < L.length
    · obtain ⟨b, off, rfl, hlb, c0, c1, c2⟩ := HL.out k hlt
      replace c1 := (hb2.cell hlb).trans c1
      have c1' := fun x : BW wr => x.cell c1
      cases hp : decide (L[k].inn < s.inn)
      · have HQ := Lib.hid (pos_stop hlt hp)
        have hg : decide ((k : Int) < (L.length : Int)) = true := by simp; omega
        go_wp2
        refine wp_region_bw (by kernel_rfl) (by kernel_rfl) ?_
        repeat (go_big_quiet_step (fail))
        refine wpQuiet_nil ?_
        intro wq hx
        have hq := bw_out hx
        clear hx
        have hq2 := hb1.trans (hq.mono hb1.size)
        clear hq
        have hc : insPos L s = k := by have := HP.out; have := HQ.out; omega
        by_cases hk0 : k = 0
        · subst hk0
          have hr : res = ([], 5) := by rw [HR.out, if_pos (.inl hc)]
          have HR2 := Lib.hid hr
          clear hc hr
          have hb3 := hb.trans (hq2.mono hb.size)
          have hk1 : decide ((0 : Int) = 0) = true := rfl
          go_wp2
          go_ret2
          rw [HR2.out]
          exact Stop.nilC hb3
        have hr : res = (if isVoyage (insAt L k s) = true then (insAt L k s, 0) else ([], 5)) := by rw [HR.out, hc, if_neg (by omega)]
        have HR2 := Lib.hid hr
        clear hc hr HR HP HQ
        have hk1 : decide ((k : Int) = 0) = false := by simp; omega
        have hk2 : decide ((k : Int) = (L.length : Int)) = false := by simp; omega
        have hkc : k ≤ cap := by omega
        have hne : ¬ cap = k := by omega
        have d0 := below_cell hq2 E0.out
        have d1 := below_cell hq2 E1.out
        have d2 := below_cell hq2 E2.out
        have hb' := hb.trans (hq2.mono hb.size)
        have hb0 := hb'.size
        have hb0' : w.heap.size < wq.heap.size := World.block_lt_of_cell? _ _ d0
        have f0 := below_cell ((Below.refl wq.heap.size wq).alloc (Nat.le_refl _) (.cells #[] 43)) d0
        have f1 := below_cell ((Below.refl wq.heap.size wq).alloc (Nat.le_refl _) (.cells #[] 43)) d1
        have f2 := below_cell ((Below.refl wq.heap.size wq).alloc (Nat.le_refl _) (.cells #[] 43)) d2
        have BD : Below wq.heap.size wq wq.drew := (Below.refl _ _).drew
        have BE : Below wq.heap.size wq (wq.drew.alloc (.cells #[] 43)) := BD.alloc (Nat.le_refl _) _
        have BS : Below wq.heap.size wq (wq.drew.alloc (.cells #[.string s.port, .int .i64 s.inn, .int .i64 s.out] 43)) := BD.alloc (Nat.le_refl _) _
        have BES : Below wq.heap.size wq ((wq.drew.alloc (.cells #[] 43)).alloc (.cells #[.string s.port, .int .i64 s.inn, .int .i64 s.out] 43)) := BE.alloc BE.size _
        have BSE : Below wq.heap.size wq ((wq.drew.alloc (.cells #[.string s.port, .int .i64 s.inn, .int .i64 s.out] 43)).alloc (.cells #[] 43)) := BS.alloc BS.size _
        have nE : (wq.drew.alloc (.cells #[] 43)).ownsRow wq.heap.size 43 3 (.slice (some ⟨wq.heap.size, 0, none⟩) 0 0) 0 [] := own_new wq.drew _ _ _ (Nat.le_refl _)
        have nES : ((wq.drew.alloc (.cells #[] 43)).alloc (.cells #[.string s.port, .int .i64 s.inn, .int .i64 s.out] 43)).ownsRow wq.heap.size 43 3 (.slice (some ⟨wq.heap.size, 0, none⟩) 0 0) 0 [] := nE.alloc _
        have nSE : ((wq.drew.alloc (.cells #[.string s.port, .int .i64 s.inn, .int .i64 s.out] 43)).alloc (.cells #[] 43)).ownsRow wq.heap.size 43 3 (.slice (some ⟨wq.heap.size + 1, 0, none⟩) 0 0) 0 [] := by
          have := own_new (wq.drew.alloc (.cells #[.string s.port, .int .i64 s.inn, .int .i64 s.out] 43)) wq.heap.size 43 3 BS.size
          rw [World.size_alloc] at this
          exact this
        have sSE : Reads ((wq.drew.alloc (.cells #[.string s.port, .int .i64 s.inn, .int .i64 s.out] 43)).alloc (.cells #[] 43)) 3 (some ⟨wq.heap.size, 0, none⟩) 1 s.cells := Reads.below (reads_new wq.drew #[.string s.port, .int .i64 s.inn, .int .i64 s.out] 43 rfl) ((Below.refl _ _).alloc (Nat.le_refl _) _)
        have sES : Reads ((wq.drew.alloc (.cells #[] 43)).alloc (.cells #[.string s.port, .int .i64 s.inn, .int .i64 s.out] 43)) 3 (some ⟨wq.heap.size + 1, 0, none⟩) 1 s.cells := by
          have := reads_new (wq.drew.alloc (.cells #[] 43)) #[.string s.port, .int .i64 s.inn, .int .i64 s.out] 43 (size := 3) rfl
          rw [World.size_alloc] at this
          exact this
        have RW : Reads wq 3 (some ⟨b, off, none⟩) L.length (Stop.flat L) := HA.out.below hb'
        have RT := RW.take hk
        have HDr := Lib.hid (RW.drop hk)
        have HTE := Lib.hid (RT.below BE)
        have HTES := Lib.hid (RT.below BES)
        have HTSE := Lib.hid (RT.below BSE)
        have h1k : ∀ u ∈ (Stop.flat L).take (k * 3), u.oneCell' = true := by rw [Stop.flat, flat_take _ _ Stop.len]; exact Stop.ones _
        have h1d : ∀ u ∈ (Stop.flat L).drop (k * 3), u.oneCell' = true := by rw [Stop.flat, flat_drop _ _ Stop.len]; exact Stop.ones _
        have hT1 := Lib.hid h1k
        have hT2 := Lib.hid h1d
        have HBE := Lib.hid BE
        have HBES := Lib.hid BES
        have HBSE := Lib.hid BSE
        have HNE := Lib.hid nE
        have HNES := Lib.hid nES
        have HNSE := Lib.hid nSE
        have HsSE := Lib.hid sSE
        have HsES := Lib.hid sES
        have H01 : Hid (some wq.heap.size ≠ some (wq.heap.size + 1)) := by unfold Hid; simp
        have H10 : Hid (some (wq.heap.size + 1) ≠ some wq.heap.size) := by unfold Hid; simp
        clear RW RT h1k h1d BD BE BS BES BSE nE nES nSE sSE sES
        have hk3 : ¬ k = L.length := by omega
        have hk4 : decide (k = L.length) = false := by simp; omega
        go_wp2
        · rename_i h
          exfalso
          simp at h
          omega
        go_region_law (first | ((refine step_append_src _ rfl (.tmp 35) (.tmp 38) 25 rfl wq.heap.size 43 i0 _ 3 32 Try.underlying25 hi hz0 hz1 hz2 rfl (by decide) _ 0 [] rfl HNE.out _ k cap rfl _ HTE.out hT1.out (by unfold maxLen; omega) (by omega) HBE.out.size ?_; intro A2 c2 wa howna hgra; have HWa : Hid (Below wq.heap.size wq wa) := Lib.hid (HBE.out.grown hgra HBE.out.size (fun g hg => (HNE.out.lt g hg).1)); have d0 := below_cell HWa.out d0; have d1 := below_cell HWa.out d1; have d2 := below_cell HWa.out d2; rw [Nat.zero_add, List.nil_append] at howna; have HOa := Lib.hid howna; clear howna hgra)) | ((refine step_append_src _ rfl (.tmp 35) (.tmp 38) 25 rfl wq.heap.size 43 i0 _ 3 32 Try.underlying25 hi hz0 hz1 hz2 rfl (by decide) _ 0 [] rfl HNES.out _ k cap rfl _ HTES.out hT1.out (by unfold maxLen; omega) (by omega) HBES.out.size ?_; intro A2 c2 wa howna hgra; have HWa : Hid (Below wq.heap.size wq wa) := Lib.hid (HBES.out.grown hgra HBES.out.size (fun g hg => (HNES.out.lt g hg).1)); have d0 := below_cell HWa.out d0; have d1 := below_cell HWa.out d1; have d2 := below_cell HWa.out d2; rw [Nat.zero_add, List.nil_append] at howna; have HOa := Lib.hid howna; have HsA := Lib.hid (reads_grown HsES.out hgra H10.out); clear howna hgra)) | ((refine step_append_src _ rfl (.tmp 35) (.tmp 38) 25 rfl wq.heap.size 43 i0 _ 3 32 Try.underlying25 hi hz0 hz1 hz2 rfl (by decide) _ 0 [] rfl HNSE.out _ k cap rfl _ HTSE.out hT1.out (by unfold maxLen; omega) (by omega) HBSE.out.size ?_; intro A2 c2 wa howna hgra; have HWa : Hid (Below wq.heap.size wq wa) := Lib.hid (HBSE.out.grown hgra HBSE.out.size (fun g hg => (HNSE.out.lt g hg).1)); have d0 := below_cell HWa.out d0; have d1 := below_cell HWa.out d1; have d2 := below_cell HWa.out d2; rw [Nat.zero_add, List.nil_append] at howna; have HOa := Lib.hid howna; have HsA := Lib.hid (reads_grown HsSE.out hgra H01.out); clear howna hgra)) | (refine step_append_src _ rfl (.tmp 39) (.tmp 41) 25 rfl wq.heap.size 43 i0 _ 3 32 Try.underlying25 hi hz0 hz1 hz2 rfl (by decide) _ k _ rfl HOa.out _ 1 1 rfl s.cells HsA.out (ones_of s) (by unfold maxLen; omega) (by omega) HWa.out.size ?_; intro A3 c3 wb hownb hgrb; have HWb : Hid (Below wq.heap.size wq wb) := Lib.hid (HWa.out.grown hgrb HWa.out.size (fun g hg => (HOa.out.lt g hg).1)); have HOb := Lib.hid hownb; clear hownb hgrb) | (refine step_append_src _ rfl (.tmp 39) (.tmp 41) 25 rfl wq.heap.size 43 i0 _ 3 32 Try.underlying25 hi hz0 hz1 hz2 rfl (by decide) _ k _ rfl (HOa.out.alloc _) _ 1 1 rfl s.cells (reads_new _ _ _ rfl) (ones_of s) (by unfold maxLen; omega) (by omega) (by have := HWa.out.size; simp; omega) ?_; intro A3 c3 wb hownb hgrb; have HWb : Hid (Below wq.heap.size wq wb) := Lib.hid ((HWa.out.alloc HWa.out.size _).grown hgrb (by have := HWa.out.size; simp; omega) (fun g hg => (HOa.out.lt g hg).1)); have HOb := Lib.hid hownb; clear hownb hgrb) | (refine step_append_src _ rfl (.tmp 42) (.tmp 45) 25 rfl wq.heap.size 43 i0 _ 3 32 Try.underlying25 hi hz0 hz1 hz2 rfl (by decide) _ (k + 1) _ rfl HOb.out _ (L.length - k) (cap - k) rfl _ (HDr.out.below HWb.out) hT2.out (by unfold maxLen; omega) (by omega) HWb.out.size ?_; intro A4 c4 wc hownc hgrc; have HWc : Hid (Below wq.heap.size wq wc) := Lib.hid (HWb.out.grown hgrc HWb.out.size (fun g hg => (HOb.out.lt g hg).1)); have HOc := Lib.hid hownc; clear hownc hgrc))
        all_goals (
          have HO4 : Hid (wc.ownsRow wq.heap.size 43 3 (.slice A4 (k + 1 + (L.length - k)) c4) (k + 1 + (L.length - k)) (Stop.flat (insAt L k s))) := by
            have := HOc.out
            have e : Stop.flat (insAt L k s) = (Stop.flat L).take (k * 3) ++ s.cells ++ (Stop.flat L).drop (k * 3) := by
              unfold insAt
              rw [Stop.flat, Stop.flat, flat_drop _ _ Stop.len, flat_take _ _ Stop.len, List.flatMap_append, List.flatMap_cons, List.append_assoc]
            unfold Hid
            rw [e]
            exact this
          have hl4 : (insAt L k s).length = k + 1 + (L.length - k) := by simp [insAt]; omega
          have ht4 : ∀ x ∈ insAt L k s, x.tiny := by
            intro x hx
            simp only [insAt, List.mem_append, List.mem_cons] at hx
            rcases hx with hx | rfl | hx
            · exact hs x (List.mem_of_mem_take hx)
            · exact hs2
            · exact hs x (List.mem_of_mem_drop hx)
          have HV4 := Lib.hid (isVoyage_spec A4 c4 (insAt L k s) wc (by have := HO4.out; rw [← hl4] at this; exact Stop.At.of_own this) ht4 (by omega))
          rw [hl4] at HV4
          have HL4 := Lib.hid hl4
          clear ht4 hl4
          cases hv4 : isVoyage (insAt L k s)
          · rw [hv4] at HR2 HV4
            obtain rfl := HR2.out
            clear hv4
            go_wp2_with fail
            refine HV4.out.mono ?_
            rintro e w5 ⟨rfl, hb5⟩
            have hb6 := (hb'.trans (HWc.out.mono hb'.size)).trans (hb5.mono (Nat.le_trans hb'.size HWc.out.size))
            clear hb5
            go_wp2
            go_ret2
            exact Stop.nilC hb6
          · rw [hv4] at HR2 HV4
            obtain rfl := HR2.out
            clear hv4
            go_wp2_with fail
            refine HV4.out.mono ?_
            rintro e w5 ⟨rfl, hb5⟩
            have hb6 := (hb'.trans (HWc.out.mono hb'.size)).trans (hb5.mono (Nat.le_trans hb'.size HWc.out.size))
            have HO5 := own_base (own_below HO4.out hb5) hb'.size
            clear hb5
            go_wp2
            go_ret2
            refine ⟨A4, c4, ?_, ?_, hb6⟩
            · show Ending.returned (.tuple #[.slice A4 (k + 1 + (L.length - k)) c4, .int .i64 0]) = .returned (.tuple #[.slice A4 (insAt L k s).length c4, .int .i64 0])
              rw [HL4.out]
            · show w5.ownsRow w.heap.size 43 3 (.slice A4 (insAt L k s).length c4) (insAt L k s).length (Stop.flat (insAt L k s))
              rw [HL4.out]
              exact HO5)
      · have HQ := Lib.hid (pos_step hlt hp)
        have hg : decide ((k : Int) < (L.length : Int)) = true := by simp; omega
        go_wp2
        refine wp_region_bw (by kernel_rfl) (by kernel_rfl) ?_
        repeat (go_big_quiet_step (fail))
        refine wpQuiet_nil ?_
        intro wq hx
        have hq := bw_out hx
        clear hx
        have hq2 := hb1.trans (hq.mono hb1.size)
        clear hq
        go_wp2
        go_roundw
        case rel => exact ⟨k + 1, by omega, by go_num, by have := HP.out; have := HQ.out; unfold Hid; omega, hq2⟩
        case measure => simp [intOf]; omega
    · obtain rfl : k = L.length := by omega
      have HQ := Lib.hid (pos_end (s := s) (Nat.le_refl L.length))
      have hg : decide ((L.length : Int) < (L.length : Int)) = false := by simp
      go_wp2
      refine wp_region_bw (by kernel_rfl) (by kernel_rfl) ?_
      repeat (go_big_quiet_step (fail))
      refine wpQuiet_nil ?_
      intro wq hx
      have hq := bw_out hx
      clear hx
      have hq2 := hb2.trans (hq.mono hb2.size)
      clear hq
      have hc : insPos L s = L.length := by rw [HP.out, HQ.out]; rfl
      have hr : res = ([], 5) := by rw [HR.out, if_pos (.inr hc)]
      clear hc
      have HR2 := Lib.hid hr
      clear hr
      go_wp2
      all_goals
        go_ret2
        rw [HR2.out]
        exact Stop.nilC hq2

theorem ins_any (L : List Stop) (s : Stop) : insR2 L s = insR L s := by
  cases h : isVoyage L with
  | true => exact ins_eq h
  | false => simp [insR, insR2, h]
theorem insR_len (L : List Stop) (s : Stop) : (insR L s).1.length ≤ 1048576 := by
  unfold insR
  split
  · split
    · simp
    · split
      · rename_i h
        have := voyage_len h
        show (insAt L (insPos L s) s).length ≤ _
        omega
      · simp
  · simp
theorem InsertRefuge_any (A : Option Addr) (cap : Nat) (L : List Stop) (s : Stop) (w : World) (hL : Stop.At w A L) (hs : ∀ s ∈ L, s.tiny) (hs2 : s.tiny) (hlen : L.length ≤ 1048576) (hcap : L.length ≤ cap) (hcm : cap ≤ 9223372036854775807) :
    Calls Try.prog 29 #[.slice A L.length cap, s.val] w (Stop.MadeC w (insR L s).1 (insR L s).2) := by
  rw [← ins_any]
  exact InsertRefuge_impl A cap L s w hL hs hs2 hlen hcap hcm
end Go.Proofs.Ytecdneaheeepdaa
