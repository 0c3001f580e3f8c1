/-
  TotalByKind on both sides.
-/
import Derived.Test.YtfbafdnjjfmhjaaLog
import Derived.Test.YtfbafdnjjfmhjaaAdd
import Derived.StillTailTactics
namespace Go.Proofs.Ytfbafdnjjfmhjaa
open Go.RowKit

def kindTot (L : List Event) : List Int := L.foldl (fun T e => addAt T e.kind.toNat e.amount) (List.replicate 7 0)
def totR (L : List Event) : List Int × Int := if isLog L then (kindTot L, 0) else ([], 1)
theorem fold_len (L : List Event) : ∀ T : List Int, (L.foldl (fun T e => addAt T e.kind.toNat e.amount) T).length = T.length := by
  induction L with
  | nil => intro T; rfl
  | cons e L ih => intro T; rw [List.foldl_cons, ih, addAt_len]
theorem kindTot_len (L : List Event) : (kindTot L).length = 7 := by rw [kindTot, fold_len]; simp
theorem totR_len (L : List Event) : (totR L).1.length ≤ 1048576 := by
  unfold totR; split
  · dsimp only; rw [kindTot_len]; omega
  · simp
theorem kindTot_step (L : List Event) {k : Nat} (h : k < L.length) : kindTot (L.take (k + 1)) = addAt (kindTot (L.take k)) L[k].kind.toNat L[k].amount := by
  rw [List.take_succ_eq_append_getElem h, kindTot, List.foldl_append]; rfl
theorem kindTot_bd {L : List Event} (h : ∀ e ∈ L, e.okB = true) : ∀ x ∈ kindTot L, 0 ≤ x ∧ x ≤ 1000000000 * L.length := by
  have key : ∀ (M : List Event) (T : List Int) (b : Int), (∀ e ∈ M, e.okB = true) → 0 ≤ b → (∀ x ∈ T, 0 ≤ x ∧ x ≤ b) → ∀ x ∈ M.foldl (fun T e => addAt T e.kind.toNat e.amount) T, 0 ≤ x ∧ x ≤ b + 1000000000 * M.length := by
    intro M
    induction M with
    | nil => intro T b _ _ hT x hx; have := hT x hx; simp; omega
    | cons e M ih =>
      intro T b hM hb hT x hx
      have he := Event.ok_bd (hM e (List.mem_cons_self ..))
      have := ih (addAt T e.kind.toNat e.amount) (b + 1000000000) (fun y hy => hM y (List.mem_cons_of_mem _ hy)) (by omega) (addAt_bd hT he.2.2 hb) x hx
      rw [List.length_cons]
      omega
  intro x hx
  have := key L (List.replicate 7 0) 0 h (by omega) (by intro y hy; have := List.eq_of_mem_replicate hy; omega) x hx
  omega
theorem tot_at {w : World} {base g : Nat} {T : List Int} {m : Nat} (v : Int) (hT : T.length = 7) (hm : m < 7) (h : w.ownsRow base 2 1 (.slice (some ⟨g, 0, none⟩) 7 7) 7 (Ints.flat T)) :
    ∃ X, X ∈ T ∧ w.cell? ⟨g, m, none⟩ = some (.int .i64 X) ∧ addAt T m v = T.set m (X + v) := by
  have hm' : m < T.length := by omega
  refine ⟨T[m], List.getElem_mem _, ?_, by rw [addAt, getD_at hm']⟩
  have h0 : w.ownsRow base 2 1 (.slice (some ⟨g, 0, none⟩) T.length 7) T.length (Ints.flat T) := by rw [hT]; exact h
  obtain ⟨b', off', e, _, hc⟩ := (Ints.At.of_own h0).at_ m hm'
  injection e with e
  injection e with e1 e2
  rw [← e1, ← e2, Nat.zero_add] at hc
  exact hc
theorem tot_row {w : World} {base g : Nat} {T : List Int} {m : Nat} {v : Int} (hT : T.length = 7) (hm : m < 7) (h : w.ownsRow base 2 1 (.slice (some ⟨g, 0, none⟩) 7 7) 7 (Ints.flat T)) :
    (w.setCell ⟨g, m, none⟩ (.int .i64 v)).ownsRow base 2 1 (.slice (some ⟨g, 0, none⟩) 7 7) 7 (Ints.flat (T.set m v)) ∧ w.grownBy (w.setCell ⟨g, m, none⟩ (.int .i64 v)) (some g) := by
  refine ⟨?_, grown_set _ _ _ _⟩
  have := (h.stored m (.int .i64 v)).1
  have e := flat_set Ints.cell 1 Ints.len v 0 (.int .i64 v) (by omega) T m (by omega) rfl
  rw [Nat.mul_one, Nat.add_zero] at e
  rw [Ints.flat, ← e]
  exact this


set_option maxHeartbeats 4000000 in
set_option maxRecDepth 100000 in
theorem TotalByKind_spec (A : Option Addr) (cap : Nat) (L : List Event) (w : World) (hL : Event.At w A L) (hs : ∀ s ∈ L, s.tiny) (hlen : L.length ≤ 9223372036854775807) :
    Calls Try.prog 24 #[.slice A L.length cap] w (Ints.MadeC w (totR L).1 (totR L).2) := by
  have HL := Lib.hid hL.at_
  have HX := Lib.hid (isLog_spec A cap L w hL hs hlen)
  obtain ⟨i0, hi, hz0, hz1, hz2⟩ := info_parts Ints.info
  clear hL hs
  cases hv : isLog L
  · have hq : totR L = ([], 1) := by rw [totR, hv]; rfl
    rw [hq]
    have HX2 := HX.out
    rw [hv] at HX2
    have HX3 := Lib.hid HX2
    clear HX2 hq
    go_enter Try.func24, Try.ntmps24
    go_wp2_with fail
    refine HX3.out.mono ?_
    rintro e w1 ⟨rfl, hb⟩
    go_wp2
    go_ret2
    exact Ints.nilC hb
  have hq : totR L = (kindTot L, 0) := by rw [totR, hv]; rfl
  rw [hq]
  have HOK := Lib.hid (log_ok hv)
  have h15 := log_len hv
  have HX2 := HX.out
  rw [hv] at HX2
  have HX3 := Lib.hid HX2
  clear HX2 HX hq hv
  have hz : (madeCells #[.int .i64 0] (7 * 1)).toList = Ints.flat (List.replicate 7 0) := made_flat Ints.cell 0 _ 1 7 (by omega) rfl rfl
  have HZ := Lib.hid hz
  clear hz
  go_enter Try.func24, Try.ntmps24
  go_wp2_with fail
  refine HX3.out.mono ?_
  rintro e w1 ⟨rfl, hb⟩
  have hsz := hb.size
  go_wp2_with (at_make; refine wpList_make_full _ rfl _ _ 36 rfl w1.heap.size 2 i0 _ 1 Try.underlying36 hi hz0 hz1 .i64 .i64 _ _ 7 rfl rfl rfl rfl ?c1 ?c2 ?c3 ?_)
  case c1 => rw [hz2]; omega
  case c2 => unfold maxLen; omega
  case c3 => omega
  intro w2 hown hgr
  have hb0 := hb.grown hgr hsz (by simp)
  rw [HZ.out] at hown
  have HO := Lib.hid (own_base hown hsz)
  generalize w1.heap.size = g at HO ⊢
  clear hown hgr hb hsz
  go_wp2
  go_loopw [5] (fun i wr => ∃ k : Nat, k ≤ L.length ∧ i = .int .i64 k ∧ Hid (wr.ownsRow w.heap.size 2 1 (.slice (some ⟨g, 0, none⟩) 7 7) 7 (Ints.flat (kindTot (L.take k)))) ∧ Below w.heap.size w wr) (fun i _ => L.length - (intOf i).toNat)
  case atStart => exact ⟨0, Nat.zero_le _, rfl, HO, hb0⟩
  case round =>
    clear hb0
    obtain ⟨k, hk, rfl, HW, hb⟩ := hrel
    by_cases hlt : k < L.length
    · obtain ⟨b, off, rfl, hlb, c0, c1, c2, c3, c4, c5, c6⟩ := HL.out k hlt
      replace c0 := (hb.cell hlb).trans c0
      replace c1 := (hb.cell hlb).trans c1
      replace c2 := (hb.cell hlb).trans c2
      replace c3 := (hb.cell hlb).trans c3
      replace c4 := (hb.cell hlb).trans c4
      replace c5 := (hb.cell hlb).trans c5
      replace c6 := (hb.cell hlb).trans c6
      obtain ⟨bk, bm, ba⟩ := Event.ok_bd (HOK.out _ (List.getElem_mem hlt))
      obtain ⟨m, hm⟩ : ∃ m : Nat, L[k].kind = m := ⟨L[k].kind.toNat, by omega⟩
      have hm7 : m < 7 := by omega
      have hmi : (m : Int) < 7 := by omega
      obtain ⟨ba1, ba2⟩ := ba
      have HT : Hid (kindTot (L.take (k + 1)) = addAt (kindTot (L.take k)) m L[k].amount) := by
        unfold Hid; rw [kindTot_step L hlt, hm]; rfl
      have hbd := kindTot_bd (L := L.take k) (fun e he => HOK.out e (List.mem_of_mem_take he))
      have hTl := kindTot_len (L.take k)
      rw [List.length_take, Nat.min_eq_left (Nat.le_of_lt hlt)] at hbd
      obtain ⟨T, hTT⟩ : ∃ T, T = kindTot (L.take k) := ⟨_, rfl⟩
      have hown := HW.out
      rw [← hTT] at hown hbd hTl HT
      clear HW bk hTT
      rw [hm] at c1
      obtain ⟨X, hX, hat, hS⟩ := tot_at L[k].amount hTl hm7 hown
      have HS := Lib.hid hS
      obtain ⟨hx1, hx2⟩ := hbd X hX
      clear hbd hX hS
      have fz := hown.frozenAt
      have HOW := Lib.hid hown
      have HB := Lib.hid hb
      have HMM := Lib.hid hm
      clear hm hown
      go_wp2

      go_still_tail 21, (by kernel_rfl)
      change wpList _ _ _ _ _ wr.drew
      go_wp2
      have HN := tot_row (v := X + L[k].amount) hTl hm7 (HOW.out.drew)
      go_roundw
      case rel =>
        refine ⟨k + 1, by omega, by go_num, ?_, HB.out.drew.grown HN.2 (by simpa using HB.out.size) (fun g' hg' => ?_)⟩
        · have := HN.1
          rw [← HS.out, ← HT.out] at this
          exact Lib.hid this
        · exact (HOW.out.lt g' hg').1
      case measure => simp [intOf]; omega
    · obtain rfl : k = L.length := by omega
      go_wp2
      go_ret2
      have h0 := HW.out
      rw [List.take_length] at h0
      refine ⟨some ⟨g, 0, none⟩, 7, ?_, ?_, hb⟩
      · show _ = Ending.returned (.tuple #[.slice _ (kindTot L).length 7, .int .i64 0])
        rw [kindTot_len]
        rfl
      · show World.ownsRow _ w.heap.size 2 1 (.slice _ (kindTot L).length 7) (kindTot L).length (Ints.flat (kindTot L))
        rw [kindTot_len]
        exact h0

set_option maxHeartbeats 4000000 in
set_option maxRecDepth 100000 in
theorem TotalByKind_impl (A : Option Addr) (cap : Nat) (L : List Event) (w : World) (hL : Event.At w A L) (hs : ∀ s ∈ L, s.tiny) (hlen : L.length ≤ 9223372036854775807) :
    Calls Try.prog 25 #[.slice A L.length cap] w (Ints.MadeC w (totR L).1 (totR L).2) := by
  have HL := Lib.hid hL.at_
  have HX := Lib.hid (isLog_impl A cap L w hL hs hlen)
  obtain ⟨i0, hi, hz0, hz1, hz2⟩ := info_parts Ints.info
  clear hL hs
  cases hv : isLog L
  · have hq : totR L = ([], 1) := by rw [totR, hv]; rfl
    rw [hq]
    have HX2 := HX.out
    rw [hv] at HX2
    have HX3 := Lib.hid HX2
    clear HX2 hq
    go_enter Try.func25, Try.ntmps25
    go_wp2_with fail
    refine HX3.out.mono ?_
    rintro e w1 ⟨rfl, hb⟩
    go_wp2
    go_ret2
    exact Ints.nilC hb
  have hq : totR L = (kindTot L, 0) := by rw [totR, hv]; rfl
  rw [hq]
  have HOK := Lib.hid (log_ok hv)
  have h15 := log_len hv
  have HX2 := HX.out
  rw [hv] at HX2
  have HX3 := Lib.hid HX2
  clear HX2 HX hq hv
  have hz : (madeCells #[.int .i64 0] (7 * 1)).toList = Ints.flat (List.replicate 7 0) := made_flat Ints.cell 0 _ 1 7 (by omega) rfl rfl
  have HZ := Lib.hid hz
  clear hz
  go_enter Try.func25, Try.ntmps25
  go_wp2_with fail
  refine HX3.out.mono ?_
  rintro e w1 ⟨rfl, hb⟩
  have hsz := hb.size
  go_wp2_with (at_make; refine wpList_make_full _ rfl _ _ 36 rfl w1.heap.size 2 i0 _ 1 Try.underlying36 hi hz0 hz1 .i64 .i64 _ _ 7 rfl rfl rfl rfl ?c1 ?c2 ?c3 ?_)
  case c1 => rw [hz2]; omega
  case c2 => unfold maxLen; omega
  case c3 => omega
  intro w2 hown hgr
  have hb0 := hb.grown hgr hsz (by simp)
  rw [HZ.out] at hown
  have HO := Lib.hid (own_base hown hsz)
  generalize w1.heap.size = g at HO ⊢
  clear hown hgr hb hsz
  go_wp2
  go_loopw [13] (fun i wr => ∃ k : Nat, k ≤ L.length ∧ i = .int .i64 k ∧ Hid (wr.ownsRow w.heap.size 2 1 (.slice (some ⟨g, 0, none⟩) 7 7) 7 (Ints.flat (kindTot (L.take k)))) ∧ Below w.heap.size w wr) (fun i _ => L.length - (intOf i).toNat)
  case atStart => exact ⟨0, Nat.zero_le _, rfl, HO, hb0⟩
  case round =>
    clear hb0
    obtain ⟨k, hk, rfl, HW, hb⟩ := hrel
    by_cases hlt : k < L.length
    · obtain ⟨b, off, rfl, hlb, c0, c1, c2, c3, c4, c5, c6⟩ := HL.out k hlt
      replace c0 := (hb.cell hlb).trans c0
      replace c1 := (hb.cell hlb).trans c1
      replace c2 := (hb.cell hlb).trans c2
      replace c3 := (hb.cell hlb).trans c3
      replace c4 := (hb.cell hlb).trans c4
      replace c5 := (hb.cell hlb).trans c5
      replace c6 := (hb.cell hlb).trans c6
      obtain ⟨bk, bm, ba⟩ := Event.ok_bd (HOK.out _ (List.getElem_mem hlt))
      obtain ⟨m, hm⟩ : ∃ m : Nat, L[k].kind = m := ⟨L[k].kind.toNat, by omega⟩
      have hm7 : m < 7 := by omega
      have hmi : (m : Int) < 7 := by omega
      obtain ⟨ba1, ba2⟩ := ba
      have HT : Hid (kindTot (L.take (k + 1)) = addAt (kindTot (L.take k)) m L[k].amount) := by
        unfold Hid; rw [kindTot_step L hlt, hm]; rfl
      have hbd := kindTot_bd (L := L.take k) (fun e he => HOK.out e (List.mem_of_mem_take he))
      have hTl := kindTot_len (L.take k)
      rw [List.length_take, Nat.min_eq_left (Nat.le_of_lt hlt)] at hbd
      obtain ⟨T, hTT⟩ : ∃ T, T = kindTot (L.take k) := ⟨_, rfl⟩
      have hown := HW.out
      rw [← hTT] at hown hbd hTl HT
      clear HW bk hTT
      rw [hm] at c1
      have B1 : Below wr.heap.size wr (wr.alloc (.cells #[.int .i64 L[k].day, .int .i64 (m : Nat), .string L[k].interest, .int .i64 L[k].amount, .bool L[k].peril, .bool L[k].voluntary, .bool L[k].reasonable] 26)) := (Below.refl _ _).alloc (Nat.le_refl _) _
      have d0 := made_cell wr #[.int .i64 L[k].day, .int .i64 (m : Nat), .string L[k].interest, .int .i64 L[k].amount, .bool L[k].peril, .bool L[k].voluntary, .bool L[k].reasonable] 26 0 (.int .i64 L[k].day) rfl
      have d1 := made_cell wr #[.int .i64 L[k].day, .int .i64 (m : Nat), .string L[k].interest, .int .i64 L[k].amount, .bool L[k].peril, .bool L[k].voluntary, .bool L[k].reasonable] 26 1 (.int .i64 (m : Nat)) rfl
      have d2 := made_cell wr #[.int .i64 L[k].day, .int .i64 (m : Nat), .string L[k].interest, .int .i64 L[k].amount, .bool L[k].peril, .bool L[k].voluntary, .bool L[k].reasonable] 26 2 (.string L[k].interest) rfl
      have d3 := made_cell wr #[.int .i64 L[k].day, .int .i64 (m : Nat), .string L[k].interest, .int .i64 L[k].amount, .bool L[k].peril, .bool L[k].voluntary, .bool L[k].reasonable] 26 3 (.int .i64 L[k].amount) rfl
      have d4 := made_cell wr #[.int .i64 L[k].day, .int .i64 (m : Nat), .string L[k].interest, .int .i64 L[k].amount, .bool L[k].peril, .bool L[k].voluntary, .bool L[k].reasonable] 26 4 (.bool L[k].peril) rfl
      have d5 := made_cell wr #[.int .i64 L[k].day, .int .i64 (m : Nat), .string L[k].interest, .int .i64 L[k].amount, .bool L[k].peril, .bool L[k].voluntary, .bool L[k].reasonable] 26 5 (.bool L[k].voluntary) rfl
      have d6 := made_cell wr #[.int .i64 L[k].day, .int .i64 (m : Nat), .string L[k].interest, .int .i64 L[k].amount, .bool L[k].peril, .bool L[k].voluntary, .bool L[k].reasonable] 26 6 (.bool L[k].reasonable) rfl
      replace hown := own_below hown B1
      replace hb := hb.trans (B1.mono hb.size)
      clear B1
      obtain ⟨X, hX, hat, hS⟩ := tot_at L[k].amount hTl hm7 hown
      have HS := Lib.hid hS
      obtain ⟨hx1, hx2⟩ := hbd X hX
      clear hbd hX hS
      have fz := hown.frozenAt
      have HOW := Lib.hid hown
      have HB := Lib.hid hb
      have HMM := Lib.hid hm
      clear hm hown
      go_wp2
      generalize wr.alloc (.cells #[.int .i64 L[k].day, .int .i64 (m : Nat), .string L[k].interest, .int .i64 L[k].amount, .bool L[k].peril, .bool L[k].voluntary, .bool L[k].reasonable] 26) = W2 at d1 d3 hat fz HOW HB ⊢
      go_still_tail 9, (by kernel_rfl)
      change wpList _ _ _ _ _ W2.drew
      go_wp2
      have HN := tot_row (v := X + L[k].amount) hTl hm7 (HOW.out.drew)
      go_roundw
      case rel =>
        refine ⟨k + 1, by omega, by go_num, ?_, HB.out.drew.grown HN.2 (by simpa using HB.out.size) (fun g' hg' => ?_)⟩
        · have := HN.1
          rw [← HS.out, ← HT.out] at this
          exact Lib.hid this
        · exact (HOW.out.lt g' hg').1
      case measure => simp [intOf]; omega
    · obtain rfl : k = L.length := by omega
      go_wp2
      go_ret2
      have h0 := HW.out
      rw [List.take_length] at h0
      refine ⟨some ⟨g, 0, none⟩, 7, ?_, ?_, hb⟩
      · show _ = Ending.returned (.tuple #[.slice _ (kindTot L).length 7, .int .i64 0])
        rw [kindTot_len]
        rfl
      · show World.ownsRow _ w.heap.size 2 1 (.slice _ (kindTot L).length 7) (kindTot L).length (Ints.flat (kindTot L))
        rw [kindTot_len]
        exact h0
end Go.Proofs.Ytfbafdnjjfmhjaa
