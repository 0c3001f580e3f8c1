/-
  PortOn and LegOn on both sides.
-/
import Derived.Test.YtecdneaheeepdaaVoyFun
namespace Go.Proofs.Ytecdneaheeepdaa
open Go.RowKit

theorem find_idx {α : Type} (p : α → Bool) : ∀ (L : List α), (idx p L < 0 ∧ L.find? p = none ∧ L.any p = false) ∨ ∃ (k : Nat) (h : k < L.length), idx p L = k ∧ L.find? p = some L[k] ∧ L.any p = true ∧ p L[k] = true := by
  intro L
  unfold idx
  split
  · rename_i k h
    right
    have h2 := List.findIdx?_eq_some_iff_getElem.1 h
    obtain ⟨hk, hp, hn⟩ := h2
    refine ⟨k, hk, rfl, ?_, List.any_eq_true.2 ⟨_, List.getElem_mem hk, hp⟩, hp⟩
    rw [List.find?_eq_some_iff_getElem]
    exact ⟨hp, k, hk, rfl, fun j hj => by simpa using hn j hj⟩
  · rename_i h
    rw [List.findIdx?_eq_none_iff] at h
    left
    exact ⟨by omega, List.find?_eq_none.2 (fun x hx => by simp [h x hx]), List.any_eq_false.2 (fun x hx => by simp [h x hx])⟩
theorem place_bd (L : List Stop) (day : Int) : 0 ≤ placeCode L day ∧ placeCode L day ≤ 4 := by
  unfold placeCode; (repeat' split) <;> omega
theorem place_voyage {L : List Stop} {day : Int} (h : placeCode L day = 0) : isVoyage L = true := by
  unfold placeCode at h; split at h
  · assumption
  · simp at h

set_option maxHeartbeats 1000000 in
theorem PortOn_spec (A : Option Addr) (cap : Nat) (L : List Stop) (day : Int) (w : World) (hL : Stop.At w A L) (hs : ∀ s ∈ L, s.tiny) (hlen : L.length ≤ 9223372036854775807) :
    Calls Try.prog 20 #[.slice A L.length cap, .int .i64 day] w fun e w' => e = .returned (.tuple #[.string (portR L day).1, .int .i64 (portR L day).2]) ∧ Below w.heap.size w w' := by
  have HX := Lib.hid (l07Code_any A cap L day w hL hs hlen)
  have hbd := place_bd L day
  by_cases hc : placeCode L day = 0
  · have er : portR L day = (portAt L day, 0) := by simp [portR, hc]
    rw [hc] at HX
    rw [er]
    rcases find_idx (onB day) L with ⟨hi, hf, _⟩ | ⟨k, hk, hi, hf, _⟩
    · rw [portAt, hf]
      clear hc er hf
      have HI := Lib.hid hi
      go_enter Try.func20, Try.ntmps20
      go_wp2_with fail
      refine HX.out.mono ?_
      rintro e w1 ⟨rfl, hb1⟩
      go_wp2_with fail
      refine (l07Port_any A cap L day w1 (hL.below hb1) hlen).mono ?_
      rintro e w2 ⟨rfl, hb2⟩
      have hb := hb1.trans (hb2.mono hb1.size)
      clear hb1 hb2
      go_wp2
      go_ret2
      exact ⟨rfl, hb⟩
    · rw [portAt, hf]
      obtain ⟨b, off, rfl, hlb, c0, _, _⟩ := hL.at_ k hk
      have HI := Lib.hid hi
      have H0 := Lib.hid c0
      clear hc er hf hi c0
      go_enter Try.func20, Try.ntmps20
      go_wp2_with fail
      refine HX.out.mono ?_
      rintro e w1 ⟨rfl, hb1⟩
      go_wp2_with fail
      refine (calls_v (congrArg (Value.int .i64) HI.out) (l07Port_any _ cap L day w1 (hL.below hb1) hlen)).mono ?_
      rintro e w2 ⟨rfl, hb2⟩
      have hb := hb1.trans (hb2.mono hb1.size)
      clear hb1 hb2
      have c0 := below_cell hb H0.out
      go_wp2
      go_ret2
      exact ⟨rfl, hb⟩
  · have er : portR L day = (⟨#[]⟩, placeCode L day) := by simp [portR, hc]
    have hne : (placeCode L day != 0) = true := by rw [bne_iff_ne]; exact hc
    rw [er]
    clear hc er
    go_enter Try.func20, Try.ntmps20
    go_wp2_with fail
    refine HX.out.mono ?_
    rintro e w1 ⟨rfl, hb1⟩
    go_wp2
    go_ret2
    exact ⟨rfl, hb1⟩

set_option maxHeartbeats 2000000 in
theorem PortOn_impl (A : Option Addr) (cap : Nat) (L : List Stop) (day : Int) (w : World) (hL : Stop.At w A L) (hs : ∀ s ∈ L, s.tiny) (hlen : L.length ≤ 9223372036854775807) :
    Calls Try.prog 21 #[.slice A L.length cap, .int .i64 day] w fun e w' => e = .returned (.tuple #[.string (portR L day).1, .int .i64 (portR L day).2]) ∧ Below w.heap.size w w' := by
  have B1 : Below w.heap.size w (w.alloc (.cells #[.int .i64 day] 2)) := (Below.refl _ _).alloc (Nat.le_refl _) _
  have HX := Lib.hid (voyaged_any A (some ⟨w.heap.size, 0, none⟩) cap 1 L [day] _ (hL.below B1) (ints1 w day) hs hlen (by simp))
  have HB := Lib.hid B1
  clear B1
  by_cases hc : voyCode L [day] = 0
  · have hv : isVoyage L = true := by unfold voyCode at hc; split at hc; assumption; simp at hc
    have hd : isDay day = true := by
      rw [voyCode, if_pos hv] at hc
      split at hc
      · rename_i h; simpa using h
      · simp at hc
    rw [hc] at HX
    have hl := (voyage_len hv).1
    obtain ⟨b, off, he, hlb, _, d1, _⟩ := hL.at_ 0 (by omega)
    have hh : (L.head?.map (·.inn)).getD 0 = (L[0]'(by omega)).inn := by cases L with
      | nil => simp at hl
      | cons a L => rfl
    have e1 : placeCode L day = if inB day (L[0]'(by omega)).inn (lastOut L) then 0 else 4 := by rw [placeCode, hv, hd, hh]; rfl
    generalize hfst : (L[0]'(by omega)).inn = first at d1 e1
    rw [Nat.zero_mul, Nat.add_zero] at d1
    have HF := Lib.hid hfst
    have H1 := Lib.hid d1
    have HL := Lib.hid hL.at_
    cases hin : inB day first (lastOut L)
    · have er : portR L day = (⟨#[]⟩, 4) := by simp [portR, e1, hin]
      rw [er]
      have HI := Lib.hid hin
      have H0 := Lib.hid hL
      clear hc hv hd hh e1 hfst d1 hin er hL
      subst he
      go_enter Try.func21, Try.ntmps21
      go_wp2_with fail
      refine HX.out.mono ?_
      rintro e w1 ⟨rfl, hb1⟩
      have hb := HB.out.trans (hb1.mono HB.out.size)
      clear hb1
      have d1 := fun x : BW w1 => x.cell (below_cell hb H1.out)
      have hAt := fun x : BW w1 => (H0.out.below hb).below x.2
      go_wp2
      refine wp_region_bw (by kernel_rfl) (by kernel_rfl) ?_
      repeat (go_big_quiet_step ((first | (go_at_call 45; exact bw_same _ (lastDay_any _ cap L _ (hAt _) hl hlen)) | (go_at_call 49; exact bw_same _ (calls_b HI.out (in_any _ _ _ _))))))
      refine wpQuiet_nil ?_
      intro wq hx
      have hq := bw_out hx
      clear hx d1 hAt
      go_wp2
      go_ret2
      exact ⟨rfl, hb.trans (hq.mono hb.size)⟩
    · have er : portR L day = (portAt L day, 0) := by simp [portR, e1, hin]
      have hnone : ∀ x, L.find? (onB day) = x → portAt L day = (x.map (·.port)).getD ⟨#[]⟩ := fun x h => by rw [portAt, h]
      rw [er]
      have HI := Lib.hid hin
      have H0 := Lib.hid hL
      have HN := Lib.hid hnone
      clear hc hv hd hh e1 hfst d1 hin er hL hnone
      subst he
      go_enter Try.func21, Try.ntmps21
      go_wp2_with fail
      refine HX.out.mono ?_
      rintro e w1 ⟨rfl, hb1⟩
      have hb := HB.out.trans (hb1.mono HB.out.size)
      clear hb1
      have hAt := fun x : BW w1 => (H0.out.below hb).below x.2
      have d1 := fun x : BW w1 => x.cell (below_cell hb H1.out)
      go_wp2
      refine wp_region_bw (by kernel_rfl) (by kernel_rfl) ?_
      repeat (go_big_quiet_step ((first | (go_at_call 45; exact bw_same _ (lastDay_any _ cap L _ (hAt _) hl hlen)) | (go_at_call 49; exact bw_same _ (calls_b HI.out (in_any _ _ _ _))))))
      refine wpQuiet_nil ?_
      intro wq hx
      have hq := bw_out hx
      clear hx d1 hAt
      have hb2 := hb.trans (hq.mono hb.size)
      clear hb hq
      go_wp2
      go_loopw [27] (fun i wr => ∃ k : Nat, k ≤ L.length ∧ i = .int .i64 k ∧ Hid (∀ x ∈ L.take k, onB day x = false) ∧ Below w.heap.size w wr) (fun i _ => L.length - (intOf i).toNat)
      case atStart => exact ⟨0, Nat.zero_le _, rfl, (by simp [Hid]), hb2⟩
      case round =>
        obtain ⟨k, hk, rfl, HP, hb⟩ := hrel
        by_cases hlt : k < L.length
        · obtain ⟨b', off', he, hlb', c0, c1, c2⟩ := HL.out k hlt
          obtain ⟨rfl, rfl⟩ : b = b' ∧ off = off' := by injection he with he; injection he with he1 he2; exact ⟨he1, he2⟩
          clear he
          replace c0 := (hb.cell hlb).trans c0
          replace c1 := (hb.cell hlb).trans c1
          replace c2 := (hb.cell hlb).trans c2
          cases hp : onB day L[k]
          all_goals
            have HQ := Lib.hid hp
            clear hp
            go_wp2_with fail
            refine (calls_b HQ.out (in_any _ _ _ _)).mono ?_
            rintro e w2 ⟨rfl, rfl⟩
            go_wp2
          · go_roundw
            case rel => exact ⟨k + 1, by omega, by go_num, take_step _ L hlt HP.out HQ.out, hb.alloc hb.size _⟩
            case measure => simp [intOf]; omega
          · go_ret2
            have e0 : portAt L day = L[k].port := by
              rcases find_idx (onB day) L with ⟨hi, _, _⟩ | ⟨j, hj, hi, hf, _⟩
              · have := idx_hit _ L hlt HP.out HQ.out; omega
              · have := idx_hit _ L hlt HP.out HQ.out
                obtain rfl : j = k := by omega
                rw [HN.out _ hf]; rfl
            rw [e0]
            exact ⟨rfl, hb.alloc hb.size _⟩
        · go_wp2
          go_ret2
          have e0 : portAt L day = ⟨#[]⟩ := by
            have h0 := HP.out
            rw [List.take_of_length_le (by omega)] at h0
            rw [HN.out none (List.find?_eq_none.2 (fun x hx => by simp [h0 x hx]))]; rfl
          rw [e0]
          exact ⟨rfl, hb⟩
  · have hc2 : placeCode L day = voyCode L [day] := by
      cases h0 : isVoyage L <;> cases h1 : isDay day <;> simp [placeCode, voyCode, h0, h1] at hc ⊢
    have er : portR L day = (⟨#[]⟩, voyCode L [day]) := by rw [portR, hc2, if_neg hc]
    have hne : (voyCode L [day] != 0) = true := by rw [bne_iff_ne]; exact hc
    rw [er]
    clear hc hc2 er
    go_enter Try.func21, Try.ntmps21
    go_wp2_with fail
    refine HX.out.mono ?_
    rintro e w1 ⟨rfl, hb1⟩
    have hb1' := HB.out.trans (hb1.mono HB.out.size)
    clear hb1
    go_wp2
    go_ret2
    exact ⟨rfl, hb1'⟩
end Go.Proofs.Ytecdneaheeepdaa
