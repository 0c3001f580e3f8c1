/-
  IsVoyage on both sides.
-/
import Derived.Test.YtecdneaheeepdaaStop
namespace Go.Proofs.Ytecdneaheeepdaa
open Go.RowKit

def Stop.okB (s : Stop) : Bool := isCode s.port && isDay s.inn && isDay s.out && decide (s.inn ≤ s.out)
/-- Each stop is as described, and arrives behind the departure of the one before. -/
def stopsFrom : Option Int → List Stop → Bool
  | _, [] => true
  | p, s :: L => s.okB && (match p with | none => true | some o => decide (o < s.inn)) && stopsFrom (some s.out) L
def isVoyage (L : List Stop) : Bool := stopsFrom none L && inB L.length 1 10

def prevOut (L : List Stop) (k : Nat) : Option Int := if k = 0 then none else (L[k - 1]?).map (·.out)
theorem stopsFrom_split : ∀ (L : List Stop) (k : Nat) (p : Option Int), k ≤ L.length → stopsFrom p L = (stopsFrom p (L.take k) && stopsFrom (if k = 0 then p else (L[k - 1]?).map (·.out)) (L.drop k))
  | L, 0, p, _ => by simp [stopsFrom]
  | [], k + 1, p, h => by simp at h
  | s :: L, k + 1, p, h => by
    have := stopsFrom_split L k (some s.out) (by simpa using h)
    simp only [stopsFrom, List.take_succ_cons, List.drop_succ_cons]
    rw [this]
    by_cases hk : k = 0
    · subst hk; simp [stopsFrom]
    · obtain ⟨j, rfl⟩ : ∃ j, k = j + 1 := ⟨k - 1, by omega⟩
      simp [Bool.and_assoc]
theorem stopsFrom_step (L : List Stop) (k : Nat) (h : k < L.length) : stopsFrom (prevOut L k) (L.drop k) = (L[k].okB && (match prevOut L k with | none => true | some o => decide (o < L[k].inn)) && stopsFrom (prevOut L (k + 1)) (L.drop (k + 1))) := by
  rw [List.drop_eq_getElem_cons h]
  simp [stopsFrom, prevOut, h]

theorem step_false {L : List Stop} {k : Nat} (h : k < L.length) (ho : L[k].okB = false) : stopsFrom (prevOut L k) (L.drop k) = false := by
  rw [stopsFrom_step L k h, ho]; rfl
theorem step_zero {L : List Stop} (h : 0 < L.length) (ho : L[0].okB = true) : stopsFrom (prevOut L 0) (L.drop 0) = stopsFrom (prevOut L 1) (L.drop 1) := by
  rw [stopsFrom_step L 0 h, ho]; simp [prevOut]
theorem step_succ {L : List Stop} {j : Nat} (h : j + 1 < L.length) (ho : L[j + 1].okB = true) (h6 : decide (L[j + 1].inn ≤ L[j].out) = false) : stopsFrom (prevOut L (j + 1)) (L.drop (j + 1)) = stopsFrom (prevOut L (j + 2)) (L.drop (j + 2)) := by
  have e : prevOut L (j + 1) = some L[j].out := by simp [prevOut, show j < L.length from by omega]
  simp only [decide_eq_false_iff_not] at h6
  rw [stopsFrom_step L (j + 1) h, ho, e]; simp; omega
theorem step_prev {L : List Stop} {j : Nat} (h : j + 1 < L.length) (ho : L[j + 1].okB = true) (h6 : decide (L[j + 1].inn ≤ L[j].out) = true) : stopsFrom (prevOut L (j + 1)) (L.drop (j + 1)) = false := by
  have e : prevOut L (j + 1) = some L[j].out := by simp [prevOut, show j < L.length from by omega]
  simp only [decide_eq_true_eq] at h6
  rw [stopsFrom_step L (j + 1) h, ho, e]; simp; omega
theorem stop_cases (s : Stop) : (isCode s.port = false ∧ s.okB = false) ∨ (isCode s.port = true ∧ isDay s.inn = false ∧ s.okB = false) ∨ (isCode s.port = true ∧ isDay s.inn = true ∧ isDay s.out = false ∧ s.okB = false) ∨
    (isCode s.port = true ∧ isDay s.inn = true ∧ isDay s.out = true ∧ decide (s.out < s.inn) = true ∧ s.okB = false) ∨ (isCode s.port = true ∧ isDay s.inn = true ∧ isDay s.out = true ∧ decide (s.out < s.inn) = false ∧ s.okB = true) := by
  cases h1 : isCode s.port
  · simp [Stop.okB, h1]
  · cases h2 : isDay s.inn
    · simp [Stop.okB, h1, h2]
    · cases h3 : isDay s.out
      · simp [Stop.okB, h1, h2, h3]
      · simp [Stop.okB, h1, h2, h3]; omega

set_option maxHeartbeats 1000000 in
theorem isVoyage_spec (A : Option Addr) (cap : Nat) (L : List Stop) (w : World) (hL : Stop.At w A L) (hs : ∀ s ∈ L, s.tiny) (hlen : L.length ≤ 9223372036854775807) :
    Calls Try.prog 12 #[.slice A L.length cap] w fun e w' => e = .returned (.bool (isVoyage L)) ∧ Below w.heap.size w w' := by
  have HL := Lib.hid hL.at_
  have HS := Lib.hid hs
  clear hL hs
  go_enter Try.func12, Try.ntmps12
  go_wp2
  go_loopw [3] (fun i wr => ∃ k : Nat, k ≤ L.length ∧ i = .int .i64 k ∧ Hid (stopsFrom none L = stopsFrom (prevOut L k) (L.drop k)) ∧ Below w.heap.size w wr) (fun i _ => L.length - (intOf i).toNat)
  case atStart => exact ⟨0, Nat.zero_le _, rfl, by simp [Hid, prevOut], Below.refl _ _⟩
  case round =>
    obtain ⟨k, hk, rfl, HE, hb⟩ := hrel
    by_cases hlt : k < L.length
    · obtain ⟨b, off, rfl, hlb, c0, c1, c2⟩ := HL.out k hlt
      replace c0 := (hb.cell hlb).trans c0
      replace c1 := (hb.cell hlb).trans c1
      replace c2 := (hb.cell hlb).trans c2
      have hp : L[k].port.size ≤ maxLen := by have h := HS.out _ (List.getElem_mem hlt); unfold Stop.tiny at h; unfold maxLen; omega
      have e0 : k = 0 ∨ ∃ j, k = j + 1 := by
        cases k with
        | zero => exact .inl rfl
        | succ j => exact .inr ⟨j, rfl⟩
      go_wp2
      have f0 := new_cell wr #[.string L[k].port, .int .i64 L[k].inn, .int .i64 L[k].out] 43 0 (.string L[k].port) rfl
      have f1 := new_cell wr #[.string L[k].port, .int .i64 L[k].inn, .int .i64 L[k].out] 43 1 (.int .i64 L[k].inn) rfl
      have f2 := new_cell wr #[.string L[k].port, .int .i64 L[k].inn, .int .i64 L[k].out] 43 2 (.int .i64 L[k].out) rfl
      rcases stop_cases L[k] with ⟨h1, ho⟩ | ⟨h1, h2, ho⟩ | ⟨h1, h2, h3, ho⟩ | ⟨h1, h2, h3, h4, ho⟩ | ⟨h1, h2, h3, h4, ho⟩
      · refine wp_region_bw (by kernel_rfl) (by kernel_rfl) ?_
        repeat (go_big_quiet_step ((first | (go_at_call 39; with_reducible exact bw_same _ (calls_b h1 (code_spec_any _ hp _))) | (go_at_call 40; with_reducible exact bw_same _ (calls_b h2 (l02Is_any _ _))) | (go_at_call 40; with_reducible exact bw_same _ (calls_b h3 (l02Is_any _ _))))))
        refine wpQuiet_nil ?_
        intro wq hx
        have hq := bw_out hx
        clear hx
        go_wp2
        go_ret
        refine ⟨ret_b ?_, hb.trans (((Below.refl _ _).alloc (Nat.le_refl _) _).trans (hq.mono (by simp)) |>.mono hb.size)⟩
        rw [isVoyage, HE.out, step_false hlt ho]
        rfl
      · refine wp_region_bw (by kernel_rfl) (by kernel_rfl) ?_
        repeat (go_big_quiet_step ((first | (go_at_call 39; with_reducible exact bw_same _ (calls_b h1 (code_spec_any _ hp _))) | (go_at_call 40; with_reducible exact bw_same _ (calls_b h2 (l02Is_any _ _))) | (go_at_call 40; with_reducible exact bw_same _ (calls_b h3 (l02Is_any _ _))))))
        refine wpQuiet_nil ?_
        intro wq hx
        have hq := bw_out hx
        clear hx
        go_wp2
        go_ret
        refine ⟨ret_b ?_, hb.trans (((Below.refl _ _).alloc (Nat.le_refl _) _).trans (hq.mono (by simp)) |>.mono hb.size)⟩
        rw [isVoyage, HE.out, step_false hlt ho]
        rfl
      · refine wp_region_bw (by kernel_rfl) (by kernel_rfl) ?_
        repeat (go_big_quiet_step ((first | (go_at_call 39; with_reducible exact bw_same _ (calls_b h1 (code_spec_any _ hp _))) | (go_at_call 40; with_reducible exact bw_same _ (calls_b h2 (l02Is_any _ _))) | (go_at_call 40; with_reducible exact bw_same _ (calls_b h3 (l02Is_any _ _))))))
        refine wpQuiet_nil ?_
        intro wq hx
        have hq := bw_out hx
        clear hx
        go_wp2
        go_ret
        refine ⟨ret_b ?_, hb.trans (((Below.refl _ _).alloc (Nat.le_refl _) _).trans (hq.mono (by simp)) |>.mono hb.size)⟩
        rw [isVoyage, HE.out, step_false hlt ho]
        rfl
      · refine wp_region_bw (by kernel_rfl) (by kernel_rfl) ?_
        repeat (go_big_quiet_step ((first | (go_at_call 39; with_reducible exact bw_same _ (calls_b h1 (code_spec_any _ hp _))) | (go_at_call 40; with_reducible exact bw_same _ (calls_b h2 (l02Is_any _ _))) | (go_at_call 40; with_reducible exact bw_same _ (calls_b h3 (l02Is_any _ _))))))
        refine wpQuiet_nil ?_
        intro wq hx
        have hq := bw_out hx
        clear hx
        go_wp2
        go_ret
        refine ⟨ret_b ?_, hb.trans (((Below.refl _ _).alloc (Nat.le_refl _) _).trans (hq.mono (by simp)) |>.mono hb.size)⟩
        rw [isVoyage, HE.out, step_false hlt ho]
        rfl
      · rcases e0 with rfl | ⟨j, rfl⟩
        · refine wp_region_bw (by kernel_rfl) (by kernel_rfl) ?_
          repeat (go_big_quiet_step ((first | (go_at_call 39; with_reducible exact bw_same _ (calls_b h1 (code_spec_any _ hp _))) | (go_at_call 40; with_reducible exact bw_same _ (calls_b h2 (l02Is_any _ _))) | (go_at_call 40; with_reducible exact bw_same _ (calls_b h3 (l02Is_any _ _))))))
          refine wpQuiet_nil ?_
          intro wq hx
          have hq := bw_out hx
          clear hx
          go_wp2
          go_roundw
          case rel => exact ⟨1, by omega, by go_num, HE.out.trans (step_zero hlt ho), hb.trans (((Below.refl _ _).alloc (Nat.le_refl _) _).trans (hq.mono (by simp)) |>.mono hb.size)⟩
          case measure => simp [intOf]; omega
        · obtain ⟨b2, off2, he, _, _, _, p2⟩ := HL.out j (by omega)
          obtain ⟨rfl, rfl⟩ : b = b2 ∧ off = off2 := by injection he with he; injection he with he1 he2; exact ⟨he1, he2⟩
          clear he
          have p3 := fun x : BW (wr.alloc (.cells #[.string L[j + 1].port, .int .i64 L[j + 1].inn, .int .i64 L[j + 1].out] 43)) => x.cell ((World.cell?_alloc_lt wr _ ⟨b, off + j * 3 + 2, none⟩ (by have := hb.size; show b < _; omega)).trans ((hb.cell hlb).trans p2))
          have hj0 : decide ((0 : Int) < ((j + 1 : Nat) : Int)) = true := by simp only [decide_eq_true_eq]; omega
          cases h6 : decide (L[j + 1].inn ≤ L[j].out)
          · refine wp_region_bw (by kernel_rfl) (by kernel_rfl) ?_
            repeat (go_big_quiet_step ((first | (go_at_call 39; with_reducible exact bw_same _ (calls_b h1 (code_spec_any _ hp _))) | (go_at_call 40; with_reducible exact bw_same _ (calls_b h2 (l02Is_any _ _))) | (go_at_call 40; with_reducible exact bw_same _ (calls_b h3 (l02Is_any _ _))))))
            refine wpQuiet_nil ?_
            intro wq hx
            have hq := bw_out hx
            clear hx
            go_wp2
            go_roundw
            case rel => exact ⟨j + 2, by omega, by go_num, HE.out.trans (step_succ hlt ho h6), hb.trans (((Below.refl _ _).alloc (Nat.le_refl _) _).trans (hq.mono (by simp)) |>.mono hb.size)⟩
            case measure => simp [intOf]; omega
          · refine wp_region_bw (by kernel_rfl) (by kernel_rfl) ?_
            repeat (go_big_quiet_step ((first | (go_at_call 39; with_reducible exact bw_same _ (calls_b h1 (code_spec_any _ hp _))) | (go_at_call 40; with_reducible exact bw_same _ (calls_b h2 (l02Is_any _ _))) | (go_at_call 40; with_reducible exact bw_same _ (calls_b h3 (l02Is_any _ _))))))
            refine wpQuiet_nil ?_
            intro wq hx
            have hq := bw_out hx
            clear hx
            go_wp2
            go_ret
            refine ⟨ret_b ?_, hb.trans (((Below.refl _ _).alloc (Nat.le_refl _) _).trans (hq.mono (by simp)) |>.mono hb.size)⟩
            rw [isVoyage, HE.out, step_prev hlt ho h6]
            rfl
    · go_wp2_with (go_at_call 41; refine (l01In_any _ _ _ _).mono ?_; rintro e w' ⟨rfl, rfl⟩)
      go_ret
      refine ⟨ret_b ?_, hb⟩
      rw [isVoyage, HE.out, List.drop_eq_nil_of_le (by omega)]
      simp [stopsFrom]
set_option maxHeartbeats 1000000 in
theorem isVoyage_impl (A : Option Addr) (cap : Nat) (L : List Stop) (w : World) (hL : Stop.At w A L) (hs : ∀ s ∈ L, s.tiny) (hlen : L.length ≤ 9223372036854775807) :
    Calls Try.prog 14 #[.slice A L.length cap] w fun e w' => e = .returned (.bool (isVoyage L)) ∧ Below w.heap.size w w' := by
  have HL := Lib.hid hL.at_
  have HS := Lib.hid hs
  clear hL hs
  go_enter Try.func14, Try.ntmps14
  go_wp2
  go_loopw [7] (fun i wr => ∃ k : Nat, k ≤ L.length ∧ i = .int .i64 k ∧ Hid (stopsFrom none L = stopsFrom (prevOut L k) (L.drop k)) ∧ Below w.heap.size w wr) (fun i _ => L.length - (intOf i).toNat)
  case atStart => exact ⟨0, Nat.zero_le _, rfl, by simp [Hid, prevOut], Below.refl _ _⟩
  case round =>
    obtain ⟨k, hk, rfl, HE, hb⟩ := hrel
    by_cases hlt : k < L.length
    · obtain ⟨b, off, rfl, hlb, c0, c1, c2⟩ := HL.out k hlt
      replace c0 := (hb.cell hlb).trans c0
      replace c1 := (hb.cell hlb).trans c1
      replace c2 := (hb.cell hlb).trans c2
      have hp : L[k].port.size ≤ maxLen := by have h := HS.out _ (List.getElem_mem hlt); unfold Stop.tiny at h; unfold maxLen; omega
      have e0 : k = 0 ∨ ∃ j, k = j + 1 := by
        cases k with
        | zero => exact .inl rfl
        | succ j => exact .inr ⟨j, rfl⟩
      go_wp2
      have f0 := new_cell wr #[.string L[k].port, .int .i64 L[k].inn, .int .i64 L[k].out] 43 0 (.string L[k].port) rfl
      have f1 := new_cell wr #[.string L[k].port, .int .i64 L[k].inn, .int .i64 L[k].out] 43 1 (.int .i64 L[k].inn) rfl
      have f2 := new_cell wr #[.string L[k].port, .int .i64 L[k].inn, .int .i64 L[k].out] 43 2 (.int .i64 L[k].out) rfl
      rcases stop_cases L[k] with ⟨h1, ho⟩ | ⟨h1, h2, ho⟩ | ⟨h1, h2, h3, ho⟩ | ⟨h1, h2, h3, h4, ho⟩ | ⟨h1, h2, h3, h4, ho⟩
      · refine wp_region_bw (by kernel_rfl) (by kernel_rfl) ?_
        repeat (go_big_quiet_step ((first | (go_at_call 42; with_reducible exact bw_same _ (calls_b h1 (code_any _ hp _))) | (go_at_call 43; with_reducible exact bw_of _ (calls_b h2 (isDay_any _ _))) | (go_at_call 43; with_reducible exact bw_of _ (calls_b h3 (isDay_any _ _))))))
        refine wpQuiet_nil ?_
        intro wq hx
        have hq := bw_out hx
        clear hx
        go_wp2
        go_ret
        refine ⟨ret_b ?_, hb.trans (((Below.refl _ _).alloc (Nat.le_refl _) _).trans (hq.mono (by simp)) |>.mono hb.size)⟩
        rw [isVoyage, HE.out, step_false hlt ho]
        rfl
      · refine wp_region_bw (by kernel_rfl) (by kernel_rfl) ?_
        repeat (go_big_quiet_step ((first | (go_at_call 42; with_reducible exact bw_same _ (calls_b h1 (code_any _ hp _))) | (go_at_call 43; with_reducible exact bw_of _ (calls_b h2 (isDay_any _ _))) | (go_at_call 43; with_reducible exact bw_of _ (calls_b h3 (isDay_any _ _))))))
        refine wpQuiet_nil ?_
        intro wq hx
        have hq := bw_out hx
        clear hx
        go_wp2
        go_ret
        refine ⟨ret_b ?_, hb.trans (((Below.refl _ _).alloc (Nat.le_refl _) _).trans (hq.mono (by simp)) |>.mono hb.size)⟩
        rw [isVoyage, HE.out, step_false hlt ho]
        rfl
      · refine wp_region_bw (by kernel_rfl) (by kernel_rfl) ?_
        repeat (go_big_quiet_step ((first | (go_at_call 42; with_reducible exact bw_same _ (calls_b h1 (code_any _ hp _))) | (go_at_call 43; with_reducible exact bw_of _ (calls_b h2 (isDay_any _ _))) | (go_at_call 43; with_reducible exact bw_of _ (calls_b h3 (isDay_any _ _))))))
        refine wpQuiet_nil ?_
        intro wq hx
        have hq := bw_out hx
        clear hx
        go_wp2
        go_ret
        refine ⟨ret_b ?_, hb.trans (((Below.refl _ _).alloc (Nat.le_refl _) _).trans (hq.mono (by simp)) |>.mono hb.size)⟩
        rw [isVoyage, HE.out, step_false hlt ho]
        rfl
      · refine wp_region_bw (by kernel_rfl) (by kernel_rfl) ?_
        repeat (go_big_quiet_step ((first | (go_at_call 42; with_reducible exact bw_same _ (calls_b h1 (code_any _ hp _))) | (go_at_call 43; with_reducible exact bw_of _ (calls_b h2 (isDay_any _ _))) | (go_at_call 43; with_reducible exact bw_of _ (calls_b h3 (isDay_any _ _))))))
        refine wpQuiet_nil ?_
        intro wq hx
        have hq := bw_out hx
        clear hx
        go_wp2
        go_ret
        refine ⟨ret_b ?_, hb.trans (((Below.refl _ _).alloc (Nat.le_refl _) _).trans (hq.mono (by simp)) |>.mono hb.size)⟩
        rw [isVoyage, HE.out, step_false hlt ho]
        rfl
      · rcases e0 with rfl | ⟨j, rfl⟩
        · refine wp_region_bw (by kernel_rfl) (by kernel_rfl) ?_
          repeat (go_big_quiet_step ((first | (go_at_call 42; with_reducible exact bw_same _ (calls_b h1 (code_any _ hp _))) | (go_at_call 43; with_reducible exact bw_of _ (calls_b h2 (isDay_any _ _))) | (go_at_call 43; with_reducible exact bw_of _ (calls_b h3 (isDay_any _ _))))))
          refine wpQuiet_nil ?_
          intro wq hx
          have hq := bw_out hx
          clear hx
          go_wp2
          go_roundw
          case rel => exact ⟨1, by omega, by go_num, HE.out.trans (step_zero hlt ho), hb.trans (((Below.refl _ _).alloc (Nat.le_refl _) _).trans (hq.mono (by simp)) |>.mono hb.size)⟩
          case measure => simp [intOf]; omega
        · obtain ⟨b2, off2, he, _, _, _, p2⟩ := HL.out j (by omega)
          obtain ⟨rfl, rfl⟩ : b = b2 ∧ off = off2 := by injection he with he; injection he with he1 he2; exact ⟨he1, he2⟩
          clear he
          have p3 := fun x : BW (wr.alloc (.cells #[.string L[j + 1].port, .int .i64 L[j + 1].inn, .int .i64 L[j + 1].out] 43)) => x.cell ((World.cell?_alloc_lt wr _ ⟨b, off + j * 3 + 2, none⟩ (by have := hb.size; show b < _; omega)).trans ((hb.cell hlb).trans p2))
          have hj0 : decide ((0 : Int) < ((j + 1 : Nat) : Int)) = true := by simp only [decide_eq_true_eq]; omega
          cases h6 : decide (L[j + 1].inn ≤ L[j].out)
          · refine wp_region_bw (by kernel_rfl) (by kernel_rfl) ?_
            repeat (go_big_quiet_step ((first | (go_at_call 42; with_reducible exact bw_same _ (calls_b h1 (code_any _ hp _))) | (go_at_call 43; with_reducible exact bw_of _ (calls_b h2 (isDay_any _ _))) | (go_at_call 43; with_reducible exact bw_of _ (calls_b h3 (isDay_any _ _))))))
            refine wpQuiet_nil ?_
            intro wq hx
            have hq := bw_out hx
            clear hx
            go_wp2
            go_roundw
            case rel => exact ⟨j + 2, by omega, by go_num, HE.out.trans (step_succ hlt ho h6), hb.trans (((Below.refl _ _).alloc (Nat.le_refl _) _).trans (hq.mono (by simp)) |>.mono hb.size)⟩
            case measure => simp [intOf]; omega
          · refine wp_region_bw (by kernel_rfl) (by kernel_rfl) ?_
            repeat (go_big_quiet_step ((first | (go_at_call 42; with_reducible exact bw_same _ (calls_b h1 (code_any _ hp _))) | (go_at_call 43; with_reducible exact bw_of _ (calls_b h2 (isDay_any _ _))) | (go_at_call 43; with_reducible exact bw_of _ (calls_b h3 (isDay_any _ _))))))
            refine wpQuiet_nil ?_
            intro wq hx
            have hq := bw_out hx
            clear hx
            go_wp2
            go_ret
            refine ⟨ret_b ?_, hb.trans (((Below.refl _ _).alloc (Nat.le_refl _) _).trans (hq.mono (by simp)) |>.mono hb.size)⟩
            rw [isVoyage, HE.out, step_prev hlt ho h6]
            rfl
    · go_wp2
      all_goals
        go_ret
        refine ⟨ret_b ?_, hb⟩
        rw [isVoyage, HE.out, List.drop_eq_nil_of_le (by omega)]
        first | rw [inB_t (by assumption)]; simp [stopsFrom] | rw [inB_f (by assumption)]; simp [stopsFrom]

end Go.Proofs.Ytecdneaheeepdaa
