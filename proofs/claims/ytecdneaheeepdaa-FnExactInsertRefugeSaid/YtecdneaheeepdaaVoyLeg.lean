/-
  LegOn on both sides.
-/
import Derived.Test.YtecdneaheeepdaaVoyPort
namespace Go.Proofs.Ytecdneaheeepdaa
open Go.RowKit

theorem idxs_count {α : Type} (p : α → Bool) (L : List α) : (idxs p L).length = L.countP p := by
  unfold idxs
  rw [List.length_map, List.countP_eq_length_filter]
  conv => rhs; rw [← List.zipIdx_map_fst 0 L, List.filter_map, List.length_map]
  rfl
theorem count_take {α : Type} (p : α → Bool) (L : List α) {k : Nat} (h : k < L.length) : (L.take (k + 1)).countP p = (L.take k).countP p + (if p L[k] then 1 else 0) := by
  rw [List.take_succ_eq_append_getElem h, List.countP_append]; simp [List.countP_cons]

set_option maxHeartbeats 1000000 in
theorem LegOn_spec (A : Option Addr) (cap : Nat) (L : List Stop) (day : Int) (w : World) (hL : Stop.At w A L) (hs : ∀ s ∈ L, s.tiny) (hlen : L.length ≤ 1048576) :
    Calls Try.prog 30 #[.slice A L.length cap, .int .i64 day] w fun e w' => e = .returned (.tuple #[.int .i64 (legR L day).1, .int .i64 (legR L day).2]) ∧ Below w.heap.size w w' := by
  have HX := Lib.hid (l07Code_any A cap L day w hL hs (by omega))
  have HL := Lib.hid hL.at_
  by_cases hc : placeCode L day = 0
  · rw [hc] at HX
    rcases find_idx (onB day) L with ⟨hi, _, ha⟩ | ⟨k0, hk0, hi, _, ha, _⟩
    · have er : legR L day = (before L day - 1, 0) := by rw [legR, if_pos hc, ha]; rfl
      have HE : Hid (before L day = ((L.take L.length).countP (fun s => decide (s.out < day)) : Nat)) := by rw [List.take_length]; rfl
      have hidx := Lib.hid hi
      rw [er]
      clear er ha hc
      go_enter Try.func30, Try.ntmps30
      go_wp2_with fail
      refine HX.out.mono ?_
      rintro e w1 ⟨rfl, hb1⟩
      go_wp2_with fail
      refine (l07Port_any A cap L day w1 (hL.below hb1) (by omega)).mono ?_
      rintro e w2 ⟨rfl, hb2⟩
      have hb := hb1.trans (hb2.mono hb1.size)
      clear hb1 hb2
      go_wp2
      go_loopw [7, 8] (fun n i wr => ∃ k : Nat, k ≤ L.length ∧ i = .int .i64 k ∧ n = .int .i64 (((L.take k).countP (fun s => decide (s.out < day)) : Nat) - 1) ∧ Below w.heap.size w wr) (fun _ i _ => L.length - (intOf i).toNat)
      case atStart => exact ⟨0, Nat.zero_le _, rfl, by simp, hb⟩
      case round =>
        obtain ⟨k, hk, rfl, rfl, hb⟩ := hrel
        have hct : (L.take k).countP (fun s => decide (s.out < day)) ≤ k := Nat.le_trans List.countP_le_length (by simp; omega)
        by_cases hlt : k < L.length
        · obtain ⟨b, off, rfl, hlb, c0, c1, c2⟩ := HL.out k hlt
          replace c2 := (hb.cell hlb).trans c2
          have HC := Lib.hid (count_take (fun s => decide (s.out < day)) L hlt)
          generalize hgc : (L.take k).countP (fun s => decide (s.out < day)) = ct at hct HC ⊢
          clear hgc
          by_cases hp : L[k].out < day
          all_goals
            go_wp2
            go_roundw
            case rel =>
              refine ⟨k + 1, by omega, by go_num, ?_, hb⟩
              rw [HC.out]
              simp [hp]
              try omega
            case measure => simp [intOf]; omega
        · obtain rfl : k = L.length := by omega
          go_wp2
          go_ret2
          exact ⟨by rw [HE.out]; rfl, hb⟩
    · have er : legR L day = (0, 5) := by rw [legR, if_pos hc, ha]; rfl
      have hidx := Lib.hid hi
      rw [er]
      clear er ha hc hi
      go_enter Try.func30, Try.ntmps30
      go_wp2_with fail
      refine HX.out.mono ?_
      rintro e w1 ⟨rfl, hb1⟩
      go_wp2_with fail
      refine (calls_v (congrArg (Value.int .i64) hidx.out) (l07Port_any A cap L day w1 (hL.below hb1) (by omega))).mono ?_
      rintro e w2 ⟨rfl, hb2⟩
      have hb := hb1.trans (hb2.mono hb1.size)
      clear hb1 hb2
      go_wp2
      go_ret2
      exact ⟨rfl, hb⟩
  · have er : legR L day = (0, placeCode L day) := by rw [legR, if_neg hc]
    have hne : (placeCode L day != 0) = true := by rw [bne_iff_ne]; exact hc
    have hne2 : (placeCode L day == 0) = false := by rw [beq_eq_false_iff_ne]; exact hc
    rw [er]
    clear hc er
    go_enter Try.func30, Try.ntmps30
    go_wp2_with fail
    refine HX.out.mono ?_
    rintro e w1 ⟨rfl, hb1⟩
    go_wp2
    go_ret2
    exact ⟨rfl, hb1⟩

set_option maxHeartbeats 400000 in
theorem legClosure (s : Stop) (a : Addr) (day : Int) (w : World) (hc : w.cell? a = some (.int .i64 day)) :
    Calls Try.prog 56 #[s.val, .pointer (some a)] w fun e w' => e = .returned (.bool (decide (s.out < day))) ∧ Below w.heap.size w w' := by
  have B1 : Below w.heap.size w (w.alloc (.cells #[.string s.port, .int .i64 s.inn, .int .i64 s.out] 43)) := (Below.refl _ _).alloc (Nat.le_refl _) _
  have hc1 := below_cell B1 hc
  have HB := Lib.hid B1
  clear hc B1
  go_enter Try.func56, Try.ntmps56
  go_wp2
  go_ret
  exact ⟨rfl, HB.out⟩

theorem port_of_none {L : List Stop} {day : Int} (h : L.any (onB day) = false) : portAt L day = ⟨#[]⟩ := by
  rcases find_idx (onB day) L with ⟨_, hf, _⟩ | ⟨_, _, _, _, ha, _⟩
  · rw [portAt, hf]; rfl
  · rw [h] at ha; cases ha
theorem port_of_some {L : List Stop} {day : Int} (hv : isVoyage L = true) (h : L.any (onB day) = true) : (portAt L day).toList.isEmpty = false := by
  rcases find_idx (onB day) L with ⟨_, _, ha⟩ | ⟨k, hk, _, hf, _⟩
  · rw [h] at ha; cases ha
  · have ho := voyage_ok hv _ (List.getElem_mem hk)
    have e : portAt L day = L[k].port := by rw [portAt, hf]; rfl
    simp only [Stop.okB, isCode, spelledB, Bool.and_eq_true, inB_iff] at ho
    have h1 : 1 ≤ L[k].port.size := by have := ho.1.1.1.2.1; omega
    rw [e, ByteArray.toList_eq]
    have h2 : L[k].port.data.toList.length = L[k].port.size := rfl
    cases hx : L[k].port.data.toList with
    | nil => rw [hx] at h2; simp at h2; omega
    | cons => rfl

set_option maxHeartbeats 1000000 in
theorem LegOn_impl (A : Option Addr) (cap : Nat) (L : List Stop) (day : Int) (w : World) (hL : Stop.At w A L) (hs : ∀ s ∈ L, s.tiny) (hlen : L.length ≤ 1048576) :
    Calls Try.prog 31 #[.slice A L.length cap, .int .i64 day] w fun e w' => e = .returned (.tuple #[.int .i64 (legR L day).1, .int .i64 (legR L day).2]) ∧ Below w.heap.size w w' := by
  have B1 : Below w.heap.size w (w.alloc (.cells #[.int .i64 day] 2)) := (Below.refl _ _).alloc (Nat.le_refl _) _
  have hd0 : (w.alloc (.cells #[.int .i64 day] 2)).cell? ⟨w.heap.size, 0, none⟩ = some (.int .i64 day) := World.cell?_alloc_mark _ _ _ _ _
  have HX := Lib.hid (PortOn_impl A cap L day _ (hL.below B1) hs (by omega))
  have HB := Lib.hid B1
  have HD := Lib.hid hd0
  have HA := Lib.hid hL
  clear B1 hd0 hL
  by_cases hc : placeCode L day = 0
  · have hv := place_voyage hc
    cases ha : L.any (onB day)
    · have er : legR L day = (before L day - 1, 0) := by rw [legR, if_pos hc, ha]; rfl
      have ep : portR L day = (⟨#[]⟩, 0) := by rw [portR, if_pos hc, port_of_none ha]
      have hbc : 0 ≤ before L day ∧ before L day ≤ 1048576 := by
        have : L.countP (fun s => decide (s.out < day)) ≤ L.length := List.countP_le_length
        unfold before; omega
      have HE : Hid (((idxs (fun s : Stop => decide (s.out < day)) L).length : Int) = before L day) := by rw [Hid, idxs_count]; rfl
      rw [ep] at HX
      rw [er]
      clear er ep ha hv hc
      go_enter Try.func31, Try.ntmps31
      go_wp2_with fail
      refine HX.out.mono ?_
      rintro e w1 ⟨rfl, hb1⟩
      have hb := HB.out.trans (hb1.mono HB.out.size)
      have H2 := Lib.hid (below_cell hb1 HD.out)
      clear hb1
      go_wp2_with fail
      refine (indicesStop 56 #[.pointer (some ⟨w.heap.size, 0, none⟩)] A cap L (fun s => decide (s.out < day)) w1 (HA.out.below hb) ⟨run_callFunc_enter Try.func56 (by kernel_rfl) (by kernel_rfl), fun w' hw x _ => legClosure x _ day w' (below_cell hw H2.out)⟩ hlen).mono ?_
      rintro e w2 ⟨D, cd, rfl, _, hb2⟩
      have hb' := hb.trans (hb2.mono hb.size)
      clear hb hb2
      go_wp2_with fail
      refine (calls_v (congrArg (Value.int .i64) HE.out) (countInts D _ cd _ (by have := idxs_len (fun s : Stop => decide (s.out < day)) L; omega))).mono ?_
      rintro e w3 ⟨rfl, rfl⟩
      go_wp2
      go_ret2
      exact ⟨rfl, hb'⟩
    · have er : legR L day = (0, 5) := by rw [legR, if_pos hc, ha]; rfl
      have ep : portR L day = (portAt L day, 0) := by rw [portR, if_pos hc]
      have hne := port_of_some hv ha
      generalize portAt L day = pt at ep hne
      rw [ep] at HX
      rw [er]
      clear er ep ha hv hc
      go_enter Try.func31, Try.ntmps31
      go_wp2_with fail
      refine HX.out.mono ?_
      rintro e w1 ⟨rfl, hb1⟩
      have hb := HB.out.trans (hb1.mono HB.out.size)
      clear hb1
      go_wp2
      go_ret2
      exact ⟨rfl, hb⟩
  · have er : legR L day = (0, placeCode L day) := by rw [legR, if_neg hc]
    have ep : portR L day = (⟨#[]⟩, placeCode L day) := by rw [portR, if_neg hc]
    have hne : (placeCode L day != 0) = true := by rw [bne_iff_ne]; exact hc
    rw [ep] at HX
    rw [er]
    clear hc er ep
    go_enter Try.func31, Try.ntmps31
    go_wp2_with fail
    refine HX.out.mono ?_
    rintro e w1 ⟨rfl, hb1⟩
    have hb := HB.out.trans (hb1.mono HB.out.size)
    clear hb1
    go_wp2
    go_ret2
    exact ⟨rfl, hb⟩
end Go.Proofs.Ytecdneaheeepdaa
