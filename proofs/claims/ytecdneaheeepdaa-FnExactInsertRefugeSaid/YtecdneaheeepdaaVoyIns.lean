/-
  InsertRefuge on both sides.
-/
import Derived.Test.YtecdneaheeepdaaVoyLeg
import Derived.Test.YtecdneaheeepdaaMore
import Derived.Deep.RegionLaw
namespace Go.Proofs.Ytecdneaheeepdaa
open Go.RowKit

def insAt (L : List Stop) (k : Nat) (s : Stop) : List Stop := L.take k ++ s :: L.drop k
def insPos (L : List Stop) (s : Stop) : Nat := (L.takeWhile (fun t => decide (t.inn < s.inn))).length
def insR (L : List Stop) (s : Stop) : List Stop × Int :=
  if isVoyage L then (if insPos L s = 0 ∨ insPos L s = L.length then ([], 5) else if isVoyage (insAt L (insPos L s) s) then (insAt L (insPos L s) s, 0) else ([], 5)) else ([], 1)
def insCnt (L : List Stop) (s : Stop) : Nat := L.countP (fun t => decide (t.inn ≤ s.inn))
def insR2 (L : List Stop) (s : Stop) : List Stop × Int :=
  if isVoyage L then (if inB (insCnt L s) 1 (L.length - 1) then (if isVoyage (insAt L (insCnt L s) s) then (insAt L (insCnt L s) s, 0) else ([], 5)) else ([], 5)) else ([], 1)

theorem stops_adj : ∀ (M : List Stop) (p : Option Int), stopsFrom p M = true → ∀ i (h : i + 1 < M.length), (M[i]'(by omega)).out < M[i + 1].inn
  | [], _, _, i, h => by simp at h
  | [a], _, _, i, h => by simp at h
  | a :: b :: M, p, hs, i, h => by
    simp only [stopsFrom, Bool.and_eq_true, decide_eq_true_eq] at hs
    cases i with
    | zero => exact hs.2.1.2
    | succ i =>
      have := stops_adj (b :: M) (some a.out) (by simp only [stopsFrom, Bool.and_eq_true, decide_eq_true_eq]; exact hs.2) i (by simpa using h)
      simpa using this
theorem voyage_sorted : ∀ (M : List Stop) (p : Option Int), stopsFrom p M = true → M.Pairwise (fun a b => a.inn < b.inn)
  | [], _, _ => List.Pairwise.nil
  | [a], _, _ => by simp
  | a :: b :: M, p, hs => by
    simp only [stopsFrom, Bool.and_eq_true, decide_eq_true_eq] at hs
    have h2 : stopsFrom (some a.out) (b :: M) = true := by simp only [stopsFrom, Bool.and_eq_true, decide_eq_true_eq]; exact hs.2
    have ih := voyage_sorted (b :: M) _ h2
    have ha := ok_bd hs.1.1
    refine List.Pairwise.cons (fun x hx => ?_) ih
    have hab : a.inn < b.inn := by have := hs.2.1.2; omega
    rcases List.mem_cons.1 hx with rfl | hx
    · exact hab
    · have := (List.pairwise_cons.1 ih).1 x hx; omega
theorem cnt_pos : ∀ (L : List Stop) (s : Stop), L.Pairwise (fun a b => a.inn < b.inn) →
    (insCnt L s = insPos L s) ∨ (insCnt L s = insPos L s + 1 ∧ ∃ h : insPos L s < L.length, L[insPos L s].inn = s.inn)
  | [], s, _ => .inl rfl
  | t :: L, s, h => by
    obtain ⟨h1, h2⟩ := List.pairwise_cons.1 h
    by_cases hlt : t.inn < s.inn
    · have e1 : insCnt (t :: L) s = insCnt L s + 1 := by unfold insCnt; rw [List.countP_cons_of_pos]; simp; omega
      have e2 : insPos (t :: L) s = insPos L s + 1 := by unfold insPos; rw [List.takeWhile_cons_of_pos (by simpa using hlt)]; rfl
      rcases cnt_pos L s h2 with h | ⟨h, hh, he⟩
      · left; omega
      · right; refine ⟨by omega, by rw [e2]; simpa using hh, ?_⟩
        simp only [e2, List.getElem_cons_succ]; exact he
    · have e2 : insPos (t :: L) s = 0 := by unfold insPos; rw [List.takeWhile_cons_of_neg (by simpa using hlt)]; rfl
      have e3 : insCnt L s = 0 := by
        unfold insCnt
        rw [List.countP_eq_zero]
        intro x hx
        have := h1 x hx
        simp; omega
      by_cases he : t.inn = s.inn
      · right
        have e1 : insCnt (t :: L) s = insCnt L s + 1 := by unfold insCnt; rw [List.countP_cons_of_pos]; simp; omega
        refine ⟨by omega, by rw [e2]; simp, ?_⟩
        simp only [e2, List.getElem_cons_zero]; exact he
      · left
        have e1 : insCnt (t :: L) s = insCnt L s := by unfold insCnt; rw [List.countP_cons_of_neg]; simp; omega
        omega
theorem ins_get1 {L : List Stop} {k : Nat} {s : Stop} (h : k ≤ L.length) : ∃ h2 : k < (insAt L k s).length, (insAt L k s)[k] = s := by
  have hl : (insAt L k s).length = L.length + 1 := by simp [insAt]; omega
  refine ⟨by omega, ?_⟩
  simp only [insAt]
  rw [List.getElem_append_right (by simp; omega)]
  simp [Nat.min_eq_left h]
theorem ins_eq {L : List Stop} {s : Stop} (hv : isVoyage L = true) : insR2 L s = insR L s := by
  have hst : stopsFrom none L = true := by simp only [isVoyage, Bool.and_eq_true] at hv; exact hv.1
  rw [insR2, insR, hv]
  simp only [if_true]
  have hle : insPos L s ≤ L.length := (List.takeWhile_sublist _).length_le
  rcases cnt_pos L s (voyage_sorted L _ hst) with h | ⟨h, hlt, he⟩
  · rw [h]
    have : inB (insPos L s) 1 (L.length - 1) = true ↔ ¬ (insPos L s = 0 ∨ insPos L s = L.length) := by rw [inB_iff]; omega
    by_cases hc : insPos L s = 0 ∨ insPos L s = L.length
    · rw [if_pos hc, if_neg (fun h => (this.1 h) hc)]
    · rw [if_neg hc, if_pos (this.2 hc)]
  · have n1 : isVoyage (insAt L (insPos L s) s) = false := by
      cases hx : isVoyage (insAt L (insPos L s) s) with
      | false => rfl
      | true =>
        exfalso
        obtain ⟨g1, g2⟩ := ins_get1 (s := s) (Nat.le_of_lt hlt)
        have hl : (insAt L (insPos L s) s).length = L.length + 1 := by simp [insAt]; omega
        have g3 : (insAt L (insPos L s) s)[insPos L s + 1]'(by omega) = L[insPos L s] := by
          simp only [insAt]
          rw [List.getElem_append_right (by simp; omega)]
          simp [Nat.min_eq_left hle]
        have hs1 : stopsFrom none (insAt L (insPos L s) s) = true := by simp only [isVoyage, Bool.and_eq_true] at hx; exact hx.1
        have ha := stops_adj _ _ hs1 (insPos L s) (by omega)
        have hok := ok_bd (voyage_ok hx _ (List.getElem_mem g1))
        rw [g2] at ha hok
        rw [g3] at ha
        omega
    have n2 : isVoyage (insAt L (insCnt L s) s) = false := by
      cases hx : isVoyage (insAt L (insCnt L s) s) with
      | false => rfl
      | true =>
        exfalso
        obtain ⟨g1, g2⟩ := ins_get1 (L := L) (k := insCnt L s) (s := s) (by omega)
        have hl : (insAt L (insCnt L s) s).length = L.length + 1 := by simp [insAt]; omega
        have g3 : (insAt L (insCnt L s) s)[insPos L s]'(by omega) = L[insPos L s] := by
          simp only [insAt]
          rw [List.getElem_append_left (by simp; omega)]
          simp
        have hs1 : stopsFrom none (insAt L (insCnt L s) s) = true := by simp only [isVoyage, Bool.and_eq_true] at hx; exact hx.1
        have ha := stops_adj _ _ hs1 (insPos L s) (by omega)
        have hok := ok_bd (voyage_ok hv _ (List.getElem_mem hlt))
        rw [g3] at ha
        have : (insAt L (insCnt L s) s)[insPos L s + 1]'(by omega) = s := by
          have : (insAt L (insCnt L s) s)[insCnt L s] = s := g2
          simpa [h] using this
        rw [this] at ha
        omega
    rw [n1, n2]
    simp

set_option maxHeartbeats 400000 in
theorem insClosure (t : Stop) (a : Addr) (s : Stop) (w : World) (hc : w.cell? ⟨a.block, a.off + 1, none⟩ = some (.int .i64 s.inn)) (ha : a.spot = none) :
    Calls Try.prog 55 #[t.val, .pointer (some a)] w fun e w' => e = .returned (.bool (decide (t.inn ≤ s.inn))) ∧ Below w.heap.size w w' := by
  obtain ⟨ab, ao, spot⟩ := a
  obtain rfl : spot = none := ha
  have B1 : Below w.heap.size w (w.alloc (.cells #[.string t.port, .int .i64 t.inn, .int .i64 t.out] 43)) := (Below.refl _ _).alloc (Nat.le_refl _) _
  have hc1 := below_cell B1 hc
  have HB := Lib.hid B1
  clear hc B1
  go_enter Try.func55, Try.ntmps55
  go_wp2
  go_ret
  exact ⟨rfl, HB.out⟩

theorem ones_of (s : Stop) : ∀ u ∈ s.cells, u.oneCell' = true := by
  have := Stop.ones [s]
  simpa [Stop.flat] using this

set_option maxHeartbeats 2000000 in
set_option maxRecDepth 100000 in
theorem InsertRefuge_impl (A : Option Addr) (cap : Nat) (L : List Stop) (s : Stop) (w : World) (hL : Stop.At w A L) (hs : ∀ s ∈ L, s.tiny) (hs2 : s.tiny) (hlen : L.length ≤ 1048576) (hcap : L.length ≤ cap) (hcm : cap ≤ 9223372036854775807) :
    Calls Try.prog 29 #[.slice A L.length cap, s.val] w (Stop.MadeC w (insR2 L s).1 (insR2 L s).2) := by
  have B1 : Below w.heap.size w (w.alloc (.cells #[.string s.port, .int .i64 s.inn, .int .i64 s.out] 43)) := (Below.refl _ _).alloc (Nat.le_refl _) _
  have D0 := Lib.hid (made_cell w #[.string s.port, .int .i64 s.inn, .int .i64 s.out] 43 0 (.string s.port) rfl)
  have D1 := Lib.hid (made_cell w #[.string s.port, .int .i64 s.inn, .int .i64 s.out] 43 1 (.int .i64 s.inn) rfl)
  have D2 := Lib.hid (made_cell w #[.string s.port, .int .i64 s.inn, .int .i64 s.out] 43 2 (.int .i64 s.out) rfl)
  have HX := Lib.hid (isVoyage_impl A cap L _ (hL.below B1) hs (by omega))
  have HB := Lib.hid B1
  have HA := Lib.hid hL
  clear B1 hL
  cases hv : isVoyage L
  · rw [hv] at HX
    rw [insR2, hv]
    go_enter Try.func29, Try.ntmps29
    go_wp2_with fail
    refine HX.out.mono ?_
    rintro e w1 ⟨rfl, hb1⟩
    have hb := HB.out.trans (hb1.mono HB.out.size)
    clear hb1
    go_wp2
    go_ret2
    exact Stop.nilC hb
  rw [hv] at HX
  have hvl := voyage_len hv
  have hE : ((idxs (fun t : Stop => decide (t.inn ≤ s.inn)) L).length : Int) = (insCnt L s : Nat) := by rw [idxs_count]; rfl
  have HE := Lib.hid hE
  have hIL := idxs_len (fun t : Stop => decide (t.inn ≤ s.inn)) L
  have hcnt : insCnt L s ≤ L.length := List.countP_le_length
  rw [insR2, hv]
  simp only [if_true]
  generalize hk : insCnt L s = k at HE hcnt ⊢
  clear hE hk hv
  cases hin : inB k 1 (L.length - 1)
  · have HI := Lib.hid hin
    clear hin
    go_enter Try.func29, Try.ntmps29
    go_wp2_with fail
    refine HX.out.mono ?_
    rintro e w1 ⟨rfl, hb1⟩
    have hb := HB.out.trans (hb1.mono HB.out.size)
    have E1 := Lib.hid (below_cell hb1 D1.out)
    clear hb1
    go_wp2_with fail
    refine (indicesStop 55 #[.pointer (some ⟨w.heap.size, 0, none⟩)] A cap L (fun t => decide (t.inn ≤ s.inn)) w1 (HA.out.below hb) ⟨run_callFunc_enter Try.func55 (by kernel_rfl) (by kernel_rfl), fun w' hw x _ => insClosure x _ s w' (below_cell hw E1.out) rfl⟩ hlen).mono ?_
    rintro e w2 ⟨D, cd, rfl, _, hb2⟩
    have hb' := hb.trans (hb2.mono hb.size)
    clear hb hb2
    go_wp2_with fail
    refine (calls_v (congrArg (Value.int .i64) HE.out) (countInts D _ cd _ (by omega))).mono ?_
    rintro e w3 ⟨rfl, rfl⟩
    go_wp2_with fail
    refine (countStop A _ cap _ (by omega)).mono ?_
    rintro e w3 ⟨rfl, rfl⟩
    go_wp2_with fail
    refine (calls_b HI.out (in_any _ _ _ _)).mono ?_
    rintro e w3 ⟨rfl, rfl⟩
    go_wp2
    go_ret2
    exact Stop.nilC hb'
  · have hkb := inB_iff.1 hin
    have HI := Lib.hid hin
    clear hin
    obtain ⟨b, off, rfl, hlb, _⟩ := HA.out.at_ 0 (by omega)
    obtain ⟨res, hres, hres2⟩ : ∃ res : List Stop × Int, res = (if isVoyage (insAt L k s) then (insAt L k s, 0) else ([], 5)) ∧ True := ⟨_, rfl, trivial⟩
    rw [if_pos rfl, ← hres]
    have HR := Lib.hid hres
    clear hres hres2
    obtain ⟨i0, hi, hz0, hz1, hz2⟩ := info_parts Stop.info
    go_enter Try.func29, Try.ntmps29
    go_wp2_with fail
    refine HX.out.mono ?_
    rintro e w1 ⟨rfl, hb1⟩
    have hb := HB.out.trans (hb1.mono HB.out.size)
    have E1 := Lib.hid (below_cell hb1 D1.out)
    have hbE := Lib.hid hb1
    clear hb1
    go_wp2_with fail
    refine (indicesStop 55 #[.pointer (some ⟨w.heap.size, 0, none⟩)] _ cap L (fun t => decide (t.inn ≤ s.inn)) w1 (HA.out.below hb) ⟨run_callFunc_enter Try.func55 (by kernel_rfl) (by kernel_rfl), fun w' hw x _ => insClosure x _ s w' (below_cell hw E1.out) rfl⟩ hlen).mono ?_
    rintro e w2 ⟨D, cd, rfl, _, hb2⟩
    have hb' := hb.trans (hb2.mono hb.size)
    have d0 := below_cell hb2 (below_cell hbE.out D0.out)
    have d1 := below_cell hb2 (below_cell hbE.out D1.out)
    have d2 := below_cell hb2 (below_cell hbE.out D2.out)
    clear hb hb2 hbE
    go_wp2_with fail
    refine (calls_v (congrArg (Value.int .i64) HE.out) (countInts D _ cd _ (by omega))).mono ?_
    rintro e w3 ⟨rfl, rfl⟩
    go_wp2_with fail
    refine (countStop _ _ cap _ (by omega)).mono ?_
    rintro e w3 ⟨rfl, rfl⟩
    go_wp2_with fail
    refine (calls_b HI.out (in_any _ _ _ _)).mono ?_
    rintro e w3 ⟨rfl, rfl⟩
    go_wp2
    have RW : Reads w2 3 (some ⟨b, off, none⟩) L.length (Stop.flat L) := HA.out.below hb'
    have HT := Lib.hid (RW.take hcnt)
    have HDr := Lib.hid (RW.drop hcnt)
    have HAT : Hid (Stop.At w2 (some ⟨b, off, none⟩) (L.take k)) := by
      have := HT.out
      rw [Stop.flat, flat_take _ _ Stop.len] at this
      have e : (L.take k).length = k := by rw [List.length_take]; omega
      unfold Hid Stop.At
      rw [e]
      exact this
    clear RW
    have hlk : (L.take k).length = k := by rw [List.length_take]; omega
    have HLK := Lib.hid hlk
    clear hlk
    have hkc : k ≤ cap := by omega
    have hne : ¬ cap = k := by omega
    have BD : Below w2.heap.size w2 w2.drew := (Below.refl _ _).drew
    have BDA : Below w2.heap.size w2 (w2.alloc (.cells #[.string s.port, .int .i64 s.inn, .int .i64 s.out] 43)).drew := ((Below.refl _ _).alloc (Nat.le_refl _) _).drew
    have HBD := Lib.hid BD
    have HBDA := Lib.hid BDA
    clear BD BDA
    have hcopy : ∀ W, Stop.At W (some ⟨b, off, none⟩) (L.take k) → Calls Try.prog 51 #[.slice (some ⟨b, off, none⟩) k cap] W fun e w' => ∃ A1 c1, e = .returned (.slice A1 k c1) ∧ w'.ownsRow W.heap.size 43 3 (.slice A1 k c1) k (Stop.flat (L.take k)) ∧ Below W.heap.size W w' := fun W hW => by
      have := copyOfStop _ cap (L.take k) W hW (by rw [HLK.out]; omega)
      unfold Stop.Made at this
      rw [HLK.out] at this
      exact this
    have HN : Hid (Reads (w2.alloc (.cells #[.string s.port, .int .i64 s.inn, .int .i64 s.out] 43)).drew 3 (some ⟨w2.heap.size, 0, none⟩) 1 s.cells) := Lib.hid (reads_new w2 #[.string s.port, .int .i64 s.inn, .int .i64 s.out] 43 rfl)
    have HC := Lib.hid hcopy
    have hb0 := hb'.size
    clear hcopy
    go_region_law (first | (go_simp; go_at_call 51; refine (HC.out _ (HAT.out.below (by first | exact HBD.out | exact HBDA.out))).mono ?_; rintro e wc ⟨A1, c1, rfl, ho1, hbc⟩; have HBW : Hid (Below w2.heap.size w2 wc) := (by first | exact HBD.out.trans (hbc.mono HBD.out.size) | exact HBDA.out.trans (hbc.mono HBDA.out.size)); have d0 := below_cell HBW.out d0; have d1 := below_cell HBW.out d1; have d2 := below_cell HBW.out d2; have HO1 := Lib.hid ho1; have HBC := Lib.hid hbc; clear ho1 hbc) | (refine step_append_src _ rfl (.tmp 24) (.tmp 26) 25 rfl w2.heap.size 43 i0 _ 3 32 Try.underlying25 hi hz0 hz1 hz2 rfl (by decide) _ k (Stop.flat (L.take k)) rfl (HO1.out.alloc _) _ 1 1 rfl s.cells (reads_new _ _ _ rfl) (ones_of s) (by unfold maxLen; omega) (by omega) (by have := HBW.out.size; simp; omega) ?_; intro A2 c2 wa howna hgra; have HW2 : Hid (Below w2.heap.size w2 wa) := ((HBW.out.alloc HBW.out.size _).grown hgra (by have := HBW.out.size; simp; omega) (fun g hg => (HO1.out.lt g hg).1)); have HO2 := Lib.hid howna; clear howna hgra) | (refine step_append_src _ rfl (.tmp 24) (.tmp 26) 25 rfl w2.heap.size 43 i0 _ 3 32 Try.underlying25 hi hz0 hz1 hz2 rfl (by decide) _ k (Stop.flat (L.take k)) rfl (own_base HO1.out (by simp)) _ 1 1 rfl s.cells (HN.out.below HBC.out) (ones_of s) (by unfold maxLen; omega) (by omega) HBW.out.size ?_; intro A2 c2 wa howna hgra; have HW2 : Hid (Below w2.heap.size w2 wa) := (HBW.out.grown hgra HBW.out.size (fun g hg => ((own_base HO1.out (by simp) : wc.ownsRow w2.heap.size 43 3 _ _ _).lt g hg).1)); have HO2 := Lib.hid howna; clear howna hgra) | (refine step_append_src _ rfl (.tmp 27) (.tmp 30) 25 rfl w2.heap.size 43 i0 _ 3 32 Try.underlying25 hi hz0 hz1 hz2 rfl (by decide) _ (k + 1) _ rfl HO2.out _ (L.length - k) (cap - k) rfl _ (HDr.out.below HW2.out) (by rw [Stop.flat, flat_drop _ _ Stop.len]; exact Stop.ones _) (by unfold maxLen; omega) (by omega) HW2.out.size ?_; intro A3 c3 wb hownb hgrb; have HW3 : Hid (Below w2.heap.size w2 wb) := (HW2.out.grown hgrb HW2.out.size (fun g hg => (HO2.out.lt g hg).1)); have HO3 := Lib.hid hownb; clear hownb hgrb))
    all_goals (
      have HO4 : Hid (wb.ownsRow w2.heap.size 43 3 (.slice A3 (k + 1 + (L.length - k)) c3) (k + 1 + (L.length - k)) (Stop.flat (insAt L k s))) := by
        have := HO3.out
        have e : Stop.flat (insAt L k s) = Stop.flat (L.take k) ++ s.cells ++ (Stop.flat L).drop (k * 3) := by
          unfold insAt
          rw [Stop.flat, Stop.flat, Stop.flat, flat_drop _ _ Stop.len, List.flatMap_append, List.flatMap_cons, List.append_assoc]
        unfold Hid
        rw [e]
        exact this
      have hl4 : (insAt L k s).length = k + 1 + (L.length - k) := by simp [insAt]; omega
      have ht4 : ∀ x ∈ insAt L k s, x.tiny := by
        intro x hx
        simp only [insAt, List.mem_append, List.mem_cons] at hx
        rcases hx with hx | rfl | hx
        · exact hs x (List.mem_of_mem_take hx)
        · exact hs2
        · exact hs x (List.mem_of_mem_drop hx)
      have HV4 := Lib.hid (isVoyage_impl A3 c3 (insAt L k s) wb (by have := HO4.out; rw [← hl4] at this; exact Stop.At.of_own this) ht4 (by omega))
      rw [hl4] at HV4
      have HL4 := Lib.hid hl4
      clear ht4 hl4
      cases hv4 : isVoyage (insAt L k s)
      · rw [hv4] at HR HV4
        obtain rfl := HR.out
        clear hv4
        go_wp2_with fail
        refine HV4.out.mono ?_
        rintro e w5 ⟨rfl, hb5⟩
        have hb6 := (hb'.trans (HW3.out.mono hb'.size)).trans (hb5.mono (Nat.le_trans hb'.size HW3.out.size))
        clear hb5
        go_wp2
        go_ret2
        exact Stop.nilC hb6
      · rw [hv4] at HR HV4
        obtain rfl := HR.out
        clear hv4
        go_wp2_with fail
        refine HV4.out.mono ?_
        rintro e w5 ⟨rfl, hb5⟩
        have hb6 := (hb'.trans (HW3.out.mono hb'.size)).trans (hb5.mono (Nat.le_trans hb'.size HW3.out.size))
        have HO5 := own_base (own_below HO4.out hb5) hb'.size
        clear hb5
        go_wp2
        go_ret2
        refine ⟨A3, c3, ?_, ?_, hb6⟩
        · show Ending.returned (.tuple #[.slice A3 (k + 1 + (L.length - k)) c3, .int .i64 0]) = .returned (.tuple #[.slice A3 (insAt L k s).length c3, .int .i64 0])
          rw [HL4.out]
        · show w5.ownsRow w.heap.size 43 3 (.slice A3 (insAt L k s).length c3) (insAt L k s).length (Stop.flat (insAt L k s))
          rw [HL4.out]
          exact HO5)
end Go.Proofs.Ytecdneaheeepdaa
