/-
  Stops: the structure, a slice of them in memory, and the laws' own functions over them (size, copy, equality, marks).
-/
import Derived.Test.YtecdneaheeepdaaMark
namespace Go.Proofs.Ytecdneaheeepdaa
open Go.RowKit

structure Stop where
  port : ByteArray
  inn : Int
  out : Int
def Stop.cells (s : Stop) : List Value := [.string s.port, .int .i64 s.inn, .int .i64 s.out]
abbrev Stop.val (s : Stop) : Value := .agg #[.string s.port, .int .i64 s.inn, .int .i64 s.out]
def Stop.flat (L : List Stop) : List Value := L.flatMap Stop.cells
theorem Stop.len (s : Stop) : s.cells.length = 3 := rfl
theorem Stop.ones (L : List Stop) : ∀ u ∈ Stop.flat L, u.oneCell' = true := by
  intro u hu
  simp only [Stop.flat, List.mem_flatMap, Stop.cells, List.mem_cons, List.not_mem_nil, or_false] at hu
  obtain ⟨s, _, h⟩ := hu
  rcases h with rfl | rfl | rfl <;> rfl
/-- The list L stands in w behind the slice (A, length). -/
def Stop.At (w : World) (A : Option Addr) (L : List Stop) : Prop := Reads w 3 A L.length (Stop.flat L)
theorem Stop.At.below {w w' : World} {A : Option Addr} {L : List Stop} (h : Stop.At w A L) (hb : Below w.heap.size w w') : Stop.At w' A L := Reads.below h hb
theorem Stop.At.of_own {w : World} {A : Option Addr} {L : List Stop} {base : Nat} {e : TypeId} {cap : Nat} (h : w.ownsRow base e 3 (.slice A L.length cap) L.length (Stop.flat L)) : Stop.At w A L := Reads.of_own h
theorem Stop.At.at_ {w : World} {A : Option Addr} {L : List Stop} (h : Stop.At w A L) : ∀ k (hk : k < L.length), ∃ b off, A = some ⟨b, off, none⟩ ∧ b < w.heap.size ∧
    w.cell? ⟨b, off + k * 3, none⟩ = some (.string L[k].port) ∧
    w.cell? ⟨b, off + k * 3 + 1, none⟩ = some (.int .i64 L[k].inn) ∧
    w.cell? ⟨b, off + k * 3 + 2, none⟩ = some (.int .i64 L[k].out) := by
  intro k hk
  obtain ⟨b, off, e, hb, hc⟩ := h.2 (by omega)
  have g := fun j hj => flat_get Stop.cells 3 Stop.len L k j hk hj
  refine ⟨b, off, e, hb, ?_, ?_, ?_⟩
  · have := hc (k * 3 + 0) _ ((g 0 (by omega)).trans rfl); simpa using this
  · have := hc (k * 3 + 1) _ ((g 1 (by omega)).trans rfl); simpa [Nat.add_assoc] using this
  · have := hc (k * 3 + 2) _ ((g 2 (by omega)).trans rfl); simpa [Nat.add_assoc] using this

def Stop.small (s : Stop) : Prop := s.port.size ≤ 9223372036854775807
def Stop.tiny (s : Stop) : Prop := s.port.size ≤ 1048576

set_option maxHeartbeats 400000 in
set_option maxRecDepth 100000 in
theorem szStop_any (s : Stop) (left : Int) (hs : s.small) (h1 : 0 ≤ left) (h2 : left ≤ 1048576) (w : World) :
    Calls Try.prog 26 #[s.val, .int .i64 left] w (SzPost s.tiny left w) := by
  unfold Stop.small at hs
  have hs0 := hs; clear hs
  go_enter Try.func26, Try.ntmps26
  go_wp2
  all_goals
    go_ret
    first
      | exact ⟨-1, rfl, by omega, by omega, fun h => by omega, (Below.refl _ _).alloc (Nat.le_refl _) _⟩
      | exact ⟨_, rfl, by omega, by omega, fun h => by unfold Stop.tiny; omega, (Below.refl _ _).alloc (Nat.le_refl _) _⟩

def Stop.Tiny (L : List Stop) : Prop := L.length ≤ 1048576 ∧ ∀ s ∈ L, s.tiny

set_option maxHeartbeats 400000 in
set_option maxRecDepth 100000 in
theorem szStopS_any (A : Option Addr) (cap : Nat) (L : List Stop) (left : Int) (w : World) (hL : Stop.At w A L) (hs : ∀ s ∈ L, s.small) (hlen : L.length ≤ 9223372036854775807) (h1 : 0 ≤ left) (h2 : left ≤ 1048576) :
    Calls Try.prog 11 #[.slice A L.length cap, .int .i64 left] w (SzPost (Stop.Tiny L) left w) := by
  have HL := Lib.hid hL.at_
  have HS := Lib.hid hs
  clear hL hs
  go_enter Try.func11, Try.ntmps11
  go_wp2
  · go_ret
    exact ⟨-1, rfl, by omega, by omega, fun h => by omega, Below.refl _ _⟩
  · go_loopw [1, 5] (fun l i wr => ∃ (k : Nat) (lf : Int), k ≤ L.length ∧ i = .int .i64 k ∧ l = .int .i64 lf ∧ 0 ≤ lf ∧ lf ≤ left ∧ Hid (∀ s ∈ L.take k, s.tiny) ∧ Below w.heap.size w wr) (fun _ i _ => L.length - (intOf i).toNat)
    case atStart => exact ⟨0, _, Nat.zero_le _, rfl, rfl, by omega, by omega, (by simp [Hid]), Below.refl _ _⟩
    case round =>
      obtain ⟨k, lf, hk, rfl, rfl, hl0, hl1, HA, hb⟩ := hrel
      by_cases hlt : k < L.length
      · obtain ⟨b, off, rfl, hlb, c0, c1, c2⟩ := HL.out k hlt
        replace c0 := (hb.cell hlb).trans c0
        replace c1 := (hb.cell hlb).trans c1
        replace c2 := (hb.cell hlb).trans c2
        go_wp2_with (go_at_call 26; refine (szStop_any L[k] lf (HS.out _ (List.getElem_mem _)) (by omega) (by omega) _).mono ?_; rintro e w1 ⟨r, rfl, hr1, hr2, hr3, hb1⟩)
        · go_ret
          exact ⟨-1, rfl, by omega, by omega, fun h => by omega, hb.trans (hb1.mono hb.size)⟩
        · go_roundw
          case rel =>
            refine ⟨k + 1, _, by omega, by go_num, rfl, by omega, by omega, ?_, hb.trans (hb1.mono hb.size)⟩
            intro s hs'
            rw [List.take_succ_eq_append_getElem hlt, List.mem_append, List.mem_singleton] at hs'
            rcases hs' with hs' | rfl
            · exact HA.out s hs'
            · exact hr3.out (by omega)
          case measure => simp [intOf]; omega
      · go_wp2
        go_ret
        refine ⟨lf, rfl, by omega, by omega, fun _ => ⟨by omega, ?_⟩, hb⟩
        have := HA.out
        rwa [List.take_of_length_le (by omega)] at this

set_option maxHeartbeats 400000 in
set_option maxRecDepth 100000 in
theorem toStop_any (s : Stop) (w : World) :
    Calls Try.prog 28 #[s.val] w fun e w' => e = .returned s.val ∧ Below w.heap.size w w' := by
  go_enter Try.func28, Try.ntmps28
  go_wp2
  exact bodyPost_ret (v := s.val) (by simp [results, Try.results28, go_sem]) rfl ⟨rfl, (((Below.refl _ _).alloc (Nat.le_refl _) _).alloc (by simp) _).alloc (by simp; omega) _⟩

def Stop.zero : Stop := ⟨⟨#[]⟩, 0, 0⟩
theorem Stop.info : (Try.prog.info? 43).map (fun i => (i.zero, i.size, i.bytes)) = some (some (.agg #[.string ⟨#[]⟩, .int .i64 0, .int .i64 0]), 3, 32) := by kernel_rfl
theorem Stop.made (n : Nat) : (madeCells #[.string ⟨#[]⟩, .int .i64 0, .int .i64 0] (n * 3)).toList = Stop.flat (List.replicate n Stop.zero) :=
  made_flat Stop.cells Stop.zero _ 3 n (by omega) rfl rfl

/-- A slice of Stops that the call made: the result of a call that began in w. -/
def Stop.Made (w : World) (L : List Stop) (e : Ending) (w' : World) : Prop :=
  ∃ A cap, e = .returned (.slice A L.length cap) ∧ w'.ownsRow w.heap.size 43 3 (.slice A L.length cap) L.length (Stop.flat L) ∧ Below w.heap.size w w'

/-- .. with a code behind it. -/
def Stop.MadeC (w : World) (L : List Stop) (code : Int) (e : Ending) (w' : World) : Prop :=
  ∃ A cap, e = .returned (.tuple #[.slice A L.length cap, .int .i64 code]) ∧ w'.ownsRow w.heap.size 43 3 (.slice A L.length cap) L.length (Stop.flat L) ∧ Below w.heap.size w w'
theorem Stop.nilC {w w' : World} {code : Int} (hb : Below w.heap.size w w') : Stop.MadeC w [] code (.returned (.tuple #[.slice none 0 0, .int .i64 code])) w' :=
  ⟨none, 0, rfl, World.ownsRow_nil _ _ _ _, hb⟩

set_option maxHeartbeats 1000000 in
set_option maxRecDepth 100000 in
theorem toStopS_any (A : Option Addr) (cap : Nat) (L : List Stop) (w : World) (hL : Stop.At w A L) (hlen : L.length ≤ 1048576) :
    Calls Try.prog 13 #[.slice A L.length cap] w (Stop.Made w L) := by
  have HL := Lib.hid hL.at_
  clear hL
  obtain ⟨i0, hi, hz0, hz1, hz2⟩ := info_parts Stop.info
  go_enter Try.func13, Try.ntmps13
  go_wp2_with (at_make; refine wpList_make_full _ rfl _ _ 25 rfl w.heap.size 43 i0 _ 3 Try.underlying25 hi hz0 hz1 .i64 .i64 _ _ L.length rfl rfl rfl rfl ?c1 ?c2 ?c3 ?_)
  case c1 => rw [hz2]; omega
  case c2 => unfold maxLen; omega
  case c3 => omega
  intro w1 hown hgr
  have hb0 := (Below.refl w.heap.size w).grown hgr (Nat.le_refl _) (by simp)
  go_wp2
  go_loopw [4] (fun i wr => ∃ k : Nat, k ≤ L.length ∧ i = .int .i64 k ∧ wr.ownsRow w.heap.size 43 3 (.slice (some ⟨w.heap.size, 0, none⟩) L.length L.length) L.length (Stop.flat (L.take k ++ List.replicate (L.length - k) Stop.zero)) ∧ Below w.heap.size w wr) (fun i _ => L.length - (intOf i).toNat)
  case atStart => exact ⟨0, Nat.zero_le _, rfl, cast (by congr 1; exact Stop.made _) hown, hb0⟩
  case round =>
    obtain ⟨k, hk, rfl, hown, hb⟩ := hrel
    by_cases hlt : k < L.length
    · obtain ⟨b, off, rfl, hlb, c0, c1, c2⟩ := HL.out k hlt
      replace c0 := (hb.cell hlb).trans c0
      replace c1 := (hb.cell hlb).trans c1
      replace c2 := (hb.cell hlb).trans c2
      obtain ⟨M, hMM⟩ : ∃ M, M = L.take k ++ List.replicate (L.length - k) Stop.zero := ⟨_, rfl⟩
      have hM : M.length = L.length := by rw [hMM]; simp; omega
      rw [← hMM] at hown
      have hkM : k < M.length := by omega
      have HM := Lib.hid hMM
      clear hMM hM
      go_wp2_with (go_at_call 28; refine (toStop_any L[k] _).mono ?_; rintro e w2 ⟨rfl, hb1⟩; have hown2 := own_below hown hb1; obtain ⟨_, d0⟩ := own_cell_ex hown2 (k * 3) (by omega); obtain ⟨_, d1⟩ := own_cell_ex hown2 (k * 3 + 1) (by omega); obtain ⟨_, d2⟩ := own_cell_ex hown2 (k * 3 + 2) (by omega); have f := hown2.frozenAt)
      have hown2 := own_below hown hb1
      have ho := own_wr L[k].cells w2 _ (k * 3) hown2
      rw [Stop.flat, flat_wr Stop.cells 3 Stop.len _ _ _ hkM, HM.out, copy_step _ hlt] at ho
      go_roundw
      case rel => exact ⟨k + 1, by omega, by go_num, ho.1, (hb.trans (hb1.mono hb.size)).grown ho.2 (Nat.le_trans hb.size hb1.size) (by simp)⟩
      case measure => simp [intOf]; omega
    · obtain rfl : k = L.length := by omega
      go_wp2
      go_ret
      exact ⟨_, _, rfl, by simpa using hown, hb⟩

set_option maxHeartbeats 400000 in
set_option maxRecDepth 100000 in
theorem eqStop_same (s : Stop) (w : World) :
    Calls Try.prog 44 #[s.val, s.val] w fun e w' => e = .returned (.bool true) ∧ Below w.heap.size w w' := by
  go_enter Try.func44, Try.ntmps44
  go_wp2
  go_ret
  exact ⟨rfl, ((Below.refl _ _).alloc (Nat.le_refl _) _).alloc (by simp) _⟩

set_option maxHeartbeats 1000000 in
set_option maxRecDepth 100000 in
theorem eqStopS_same (A B : Option Addr) (ca cb : Nat) (L : List Stop) (w : World) (hA : Stop.At w A L) (hB : Stop.At w B L) (hlen : L.length ≤ 9223372036854775807) :
    Calls Try.prog 15 #[.slice A L.length ca, .slice B L.length cb] w fun e w' => e = .returned (.bool true) ∧ Below w.heap.size w w' := by
  have HA := Lib.hid hA.at_
  have HB := Lib.hid hB.at_
  clear hA hB
  go_enter Try.func15, Try.ntmps15
  go_wp2
  go_loopw [5] (fun i wr => ∃ k : Nat, k ≤ L.length ∧ i = .int .i64 k ∧ Below w.heap.size w wr) (fun i _ => L.length - (intOf i).toNat)
  case atStart => exact ⟨0, Nat.zero_le _, rfl, Below.refl _ _⟩
  case round =>
    obtain ⟨k, hk, rfl, hb⟩ := hrel
    by_cases hlt : k < L.length
    · obtain ⟨b, off, rfl, hlb, c0, c1, c2⟩ := HA.out k hlt
      obtain ⟨b', off', rfl, hlb', d0, d1, d2⟩ := HB.out k hlt
      replace c0 := fun x : BW wr => x.cell ((hb.cell hlb).trans c0)
      replace d0 := fun x : BW wr => x.cell ((hb.cell hlb').trans d0)
      replace c1 := fun x : BW wr => x.cell ((hb.cell hlb).trans c1)
      replace d1 := fun x : BW wr => x.cell ((hb.cell hlb').trans d1)
      replace c2 := fun x : BW wr => x.cell ((hb.cell hlb).trans c2)
      replace d2 := fun x : BW wr => x.cell ((hb.cell hlb').trans d2)
      go_wp2
      refine wp_region_bw (by kernel_rfl) (by kernel_rfl) ?_
      repeat (go_big_quiet_step ((go_at_call 44; exact bw_of _ (eqStop_same L[k] _))))
      refine wpQuiet_nil ?_
      intro wq hx
      have hq := bw_out hx
      clear hx
      clear c0 d0 c1 d1 c2 d2
      go_wp2
      go_roundw
      case rel => exact ⟨k + 1, by omega, by go_num, hb.trans (hq.mono hb.size)⟩
      case measure => simp [intOf]; omega
    · go_wp2
      go_ret
      exact ⟨rfl, hb⟩

def Stop.mark (q : Int) : Stop := ⟨markT q, (q + 1), (q + 1 + 1)⟩
def Stop.marks (m : Int) (n : Nat) : List Stop := (List.range n).map fun i => Stop.mark (m + 3 * (i : Nat))
theorem Stop.marks_len (m : Int) (n : Nat) : (Stop.marks m n).length = n := by simp [Stop.marks]

set_option maxHeartbeats 2000000 in
set_option maxRecDepth 100000 in
theorem markStopS_any (base : Nat) (A : Option Addr) (cap : Nat) (L : List Stop) (m : Int) (w : World) (hL : w.ownsRow base 43 3 (.slice A L.length cap) L.length (Stop.flat L)) (hlen : L.length ≤ 1048576) (h1 : 1 ≤ m) (h2 : m ≤ 10000000) :
    Calls Try.prog 24 #[.slice A L.length cap, .int .i64 m] w fun e w' => e = .returned (.int .i64 (m + 3 * (L.length : Nat))) ∧ w'.ownsRow base 43 3 (.slice A L.length cap) L.length (Stop.flat (Stop.marks m L.length)) ∧ w.grownBy w' (A.map (·.block)) := by
  have HS := Lib.hid (own_shape hL)
  go_enter Try.func24, Try.ntmps24
  go_wp2
  go_loopw [1, 5] (fun kk i wr => ∃ (k : Nat) (q : Int), k ≤ L.length ∧ i = .int .i64 k ∧ kk = .int .i64 q ∧ Hid (q = m + 3 * (k : Nat)) ∧ 1 ≤ q ∧ q ≤ 20000000 ∧ wr.ownsRow base 43 3 (.slice A L.length cap) L.length (Stop.flat (marksOf (fun i => Stop.mark (m + 3 * (i : Nat))) L k)) ∧ w.grownBy wr (A.map (·.block))) (fun _ i _ => L.length - (intOf i).toNat)
  case atStart => exact ⟨0, m, Nat.zero_le _, rfl, rfl, by simp [Hid], h1, by omega, by rw [marksOf_zero]; exact hL, World.grownBy.refl _ _⟩
  case round =>
    obtain ⟨k, q, hk, rfl, rfl, hq, hq1, hq2, hown, hgr⟩ := hrel
    by_cases hlt : k < L.length
    · obtain ⟨g, rfl, hg⟩ : ∃ g, A = some ⟨g, 0, none⟩ ∧ base ≤ g := by
        obtain ⟨A', cap', e, _, _, h⟩ := HS.out
        injection e with e1 e2 e3
        rcases h with ⟨_, h, _⟩ | ⟨g, rfl, hg, _⟩
        · omega
        · exact ⟨g, e1, hg⟩
      simp only [Option.map_some] at hgr
      have hqq : q + 3 ≤ 20000000 := by have := hq.out; omega
      have hM := marksOf_len (fun i => Stop.mark (m + 3 * (i : Nat))) L hk
      obtain ⟨M, hMM⟩ : ∃ M, M = marksOf (fun i => Stop.mark (m + 3 * (i : Nat))) L k := ⟨_, rfl⟩
      rw [← hMM] at hown hM
      have hkM : k < M.length := by omega
      have hn := Lib.hid hM
      have HM := Lib.hid hMM
      clear hMM hM
      have f := hown.frozenAt
      obtain ⟨_, d0⟩ := own_cell_ex hown (k * 3) (by omega)
      obtain ⟨_, d1⟩ := own_cell_ex hown (k * 3 + 1) (by omega)
      obtain ⟨_, d2⟩ := own_cell_ex hown (k * 3 + 2) (by omega)
      have H0 := Lib.hid hown
      clear hown
      go_wp2_with fail
      refine (markText_any q (by omega) (by omega) _).mono ?_
      rintro e w1 ⟨rfl, hb1⟩
      have P1 := own_wr [] wr _ (k * 3) H0.out
      have Q1 := own_below P1.1 hb1
      have G1 := Lib.hid (grown_tr hgr (grown_tr P1.2 (grown_below (row := some g) hb1)))
      clear f d0 d1 d2
      have f := Q1.frozenAt
      obtain ⟨_, d0⟩ := own_cell_ex Q1 (k * 3) (by have := hn.out; omega)
      obtain ⟨_, d1⟩ := own_cell_ex Q1 (k * 3 + 1) (by have := hn.out; omega)
      obtain ⟨_, d2⟩ := own_cell_ex Q1 (k * 3 + 2) (by have := hn.out; omega)
      have H1 := Lib.hid Q1
      clear P1 Q1 hb1
      go_wp2
      have R := own_wr [.string (markT q), .int .i64 (q + 1), .int .i64 (q + 1 + 1)] w1 _ (k * 3) H1.out
      have E : Stop.flat (marksOf (fun i => Stop.mark (m + 3 * (i : Nat))) L (k + 1)) = wrL (Stop.flat M) (k * 3) (Stop.mark q).cells := by
        rw [Stop.flat, Stop.flat, flat_wr Stop.cells 3 Stop.len _ _ _ hkM, HM.out, ← marksOf_succ _ _ hlt, hq.out]
      go_roundw
      case rel => exact ⟨k + 1, q + 3, by omega, by go_num, by go_num, (by have := hq.out; unfold Hid; omega), by omega, by omega, by rw [E]; exact R.1, grown_tr G1.out R.2⟩
      case measure => simp [intOf]; omega
    · obtain rfl : k = L.length := by omega
      go_wp2
      go_ret
      refine ⟨ret_i hq.out, ?_, hgr⟩
      rw [marksOf_all] at hown
      exact hown

set_option maxHeartbeats 2000000 in
set_option maxRecDepth 100000 in
theorem heldStopS_any (A : Option Addr) (cap : Nat) (n : Nat) (m : Int) (w : World) (hL : Stop.At w A (Stop.marks m n)) (hlen : n ≤ 1048576) (h1 : 1 ≤ m) (h2 : m ≤ 10000000) :
    Calls Try.prog 25 #[.slice A n cap, .int .i64 m] w fun e w' => e = .returned (.int .i64 (m + 3 * (n : Nat))) ∧ Below w.heap.size w w' := by
  have HL := Lib.hid hL.at_
  clear hL
  go_enter Try.func25, Try.ntmps25
  go_wp2
  go_loopw [1, 5] (fun kk i wr => ∃ (k : Nat) (q : Int), k ≤ n ∧ i = .int .i64 k ∧ kk = .int .i64 q ∧ Hid (q = m + 3 * (k : Nat)) ∧ 1 ≤ q ∧ q ≤ 20000000 ∧ Below w.heap.size w wr) (fun _ i _ => n - (intOf i).toNat)
  case atStart => exact ⟨0, m, Nat.zero_le _, rfl, rfl, by simp [Hid], h1, by omega, Below.refl _ _⟩
  case round =>
    obtain ⟨k, q, hk, rfl, rfl, hq, hq1, hq2, hb⟩ := hrel
    by_cases hlt : k < n
    · obtain ⟨b, off, rfl, hlb, c0, c1, c2⟩ := HL.out k (by rw [Stop.marks_len]; exact hlt)
      have hqq : q + 3 ≤ 20000000 := by have := hq.out; omega
      simp only [Stop.marks, List.getElem_map, List.getElem_range, ← hq.out, Stop.mark] at c0 c1 c2
      replace c0 := (hb.cell hlb).trans c0
      replace c1 := (hb.cell hlb).trans c1
      replace c2 := (hb.cell hlb).trans c2
      go_wp2
      have e1_0 := fun x : BW wr => x.cell c0
      have e1_1 := fun x : BW wr => x.cell c1
      have e1_2 := fun x : BW wr => x.cell c2
      refine wp_region_bw (by kernel_rfl) (by kernel_rfl) ?_
      repeat (go_big_quiet_step ((go_at_call 52; exact bw_of _ (markText_any q (by omega) (by omega) _))))
      refine wpQuiet_nil ?_
      intro w1 hx
      have hb1 := bw_out hx
      clear hx
      clear e1_0 e1_1 e1_2

      replace c0 := below_cell hb1 c0
      replace c1 := below_cell hb1 c1
      replace c2 := below_cell hb1 c2
      have bb1 := hb.trans (hb1.mono hb.size)
      clear hb1
      go_wp2
      go_roundw
      case rel => exact ⟨k + 1, q + 3, by omega, by go_num, by go_num, (by have := hq.out; unfold Hid; omega), by omega, by omega, bb1⟩
      case measure => simp [intOf]; omega
    · obtain rfl : k = n := by omega
      go_wp2
      go_ret
      exact ⟨ret_i hq.out, hb⟩
end Go.Proofs.Ytecdneaheeepdaa
