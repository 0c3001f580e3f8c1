/-
  Events: the structure, a slice of them in memory, and the laws' own functions over them (size, copy, equality, marks).
-/
import Derived.Test.YthhfhdekhgkcaaaMark
namespace Go.Proofs.Ythhfhdekhgkcaaa
open Go.RowKit

structure Event where
  day : Int
  kind : Int
  interest : ByteArray
  amount : Int
  peril : Bool
  voluntary : Bool
  reasonable : Bool
def Event.cells (s : Event) : List Value := [.int .i64 s.day, .int .i64 s.kind, .string s.interest, .int .i64 s.amount, .bool s.peril, .bool s.voluntary, .bool s.reasonable]
abbrev Event.val (s : Event) : Value := .agg #[.int .i64 s.day, .int .i64 s.kind, .string s.interest, .int .i64 s.amount, .bool s.peril, .bool s.voluntary, .bool s.reasonable]
def Event.flat (L : List Event) : List Value := L.flatMap Event.cells
theorem Event.len (s : Event) : s.cells.length = 7 := rfl
theorem Event.ones (L : List Event) : ∀ u ∈ Event.flat L, u.oneCell' = true := by
  intro u hu
  simp only [Event.flat, List.mem_flatMap, Event.cells, List.mem_cons, List.not_mem_nil, or_false] at hu
  obtain ⟨s, _, h⟩ := hu
  rcases h with rfl | rfl | rfl | rfl | rfl | rfl | rfl <;> rfl
/-- The list L stands in w behind the slice (A, length). -/
def Event.At (w : World) (A : Option Addr) (L : List Event) : Prop := Reads w 7 A L.length (Event.flat L)
theorem Event.At.below {w w' : World} {A : Option Addr} {L : List Event} (h : Event.At w A L) (hb : Below w.heap.size w w') : Event.At w' A L := Reads.below h hb
theorem Event.At.of_own {w : World} {A : Option Addr} {L : List Event} {base : Nat} {e : TypeId} {cap : Nat} (h : w.ownsRow base e 7 (.slice A L.length cap) L.length (Event.flat L)) : Event.At w A L := Reads.of_own h
theorem Event.At.at_ {w : World} {A : Option Addr} {L : List Event} (h : Event.At w A L) : ∀ k (hk : k < L.length), ∃ b off, A = some ⟨b, off, none⟩ ∧ b < w.heap.size ∧
    w.cell? ⟨b, off + k * 7, none⟩ = some (.int .i64 L[k].day) ∧
    w.cell? ⟨b, off + k * 7 + 1, none⟩ = some (.int .i64 L[k].kind) ∧
    w.cell? ⟨b, off + k * 7 + 2, none⟩ = some (.string L[k].interest) ∧
    w.cell? ⟨b, off + k * 7 + 3, none⟩ = some (.int .i64 L[k].amount) ∧
    w.cell? ⟨b, off + k * 7 + 4, none⟩ = some (.bool L[k].peril) ∧
    w.cell? ⟨b, off + k * 7 + 5, none⟩ = some (.bool L[k].voluntary) ∧
    w.cell? ⟨b, off + k * 7 + 6, none⟩ = some (.bool L[k].reasonable) := by
  intro k hk
  obtain ⟨b, off, e, hb, hc⟩ := h.2 (by omega)
  have g := fun j hj => flat_get Event.cells 7 Event.len L k j hk hj
  refine ⟨b, off, e, hb, ?_, ?_, ?_, ?_, ?_, ?_, ?_⟩
  · have := hc (k * 7 + 0) _ ((g 0 (by omega)).trans rfl); simpa using this
  · have := hc (k * 7 + 1) _ ((g 1 (by omega)).trans rfl); simpa [Nat.add_assoc] using this
  · have := hc (k * 7 + 2) _ ((g 2 (by omega)).trans rfl); simpa [Nat.add_assoc] using this
  · have := hc (k * 7 + 3) _ ((g 3 (by omega)).trans rfl); simpa [Nat.add_assoc] using this
  · have := hc (k * 7 + 4) _ ((g 4 (by omega)).trans rfl); simpa [Nat.add_assoc] using this
  · have := hc (k * 7 + 5) _ ((g 5 (by omega)).trans rfl); simpa [Nat.add_assoc] using this
  · have := hc (k * 7 + 6) _ ((g 6 (by omega)).trans rfl); simpa [Nat.add_assoc] using this

def Event.small (s : Event) : Prop := s.interest.size ≤ 9223372036854775807
def Event.tiny (s : Event) : Prop := s.interest.size ≤ 1048576

set_option maxHeartbeats 400000 in
set_option maxRecDepth 100000 in
theorem szEvent_any (s : Event) (left : Int) (hs : s.small) (h1 : 0 ≤ left) (h2 : left ≤ 1048576) (w : World) :
    Calls Try.prog 19 #[s.val, .int .i64 left] w (SzPost s.tiny left w) := by
  unfold Event.small at hs
  have hs0 := hs; clear hs
  go_enter Try.func19, Try.ntmps19
  go_wp2
  all_goals
    go_ret
    first
      | exact ⟨-1, rfl, by omega, by omega, fun h => by omega, (Below.refl _ _).alloc (Nat.le_refl _) _⟩
      | exact ⟨_, rfl, by omega, by omega, fun h => by unfold Event.tiny; omega, (Below.refl _ _).alloc (Nat.le_refl _) _⟩

def Event.Tiny (L : List Event) : Prop := L.length ≤ 1048576 ∧ ∀ s ∈ L, s.tiny

set_option maxHeartbeats 400000 in
set_option maxRecDepth 100000 in
theorem szEventS_any (A : Option Addr) (cap : Nat) (L : List Event) (left : Int) (w : World) (hL : Event.At w A L) (hs : ∀ s ∈ L, s.small) (hlen : L.length ≤ 9223372036854775807) (h1 : 0 ≤ left) (h2 : left ≤ 1048576) :
    Calls Try.prog 42 #[.slice A L.length cap, .int .i64 left] w (SzPost (Event.Tiny L) left w) := by
  have HL := Lib.hid hL.at_
  have HS := Lib.hid hs
  clear hL hs
  go_enter Try.func42, Try.ntmps42
  go_wp2
  · go_ret
    exact ⟨-1, rfl, by omega, by omega, fun h => by omega, Below.refl _ _⟩
  · go_loopw [1, 5] (fun l i wr => ∃ (k : Nat) (lf : Int), k ≤ L.length ∧ i = .int .i64 k ∧ l = .int .i64 lf ∧ 0 ≤ lf ∧ lf ≤ left ∧ Hid (∀ s ∈ L.take k, s.tiny) ∧ Below w.heap.size w wr) (fun _ i _ => L.length - (intOf i).toNat)
    case atStart => exact ⟨0, _, Nat.zero_le _, rfl, rfl, by omega, by omega, (by simp [Hid]), Below.refl _ _⟩
    case round =>
      obtain ⟨k, lf, hk, rfl, rfl, hl0, hl1, HA, hb⟩ := hrel
      by_cases hlt : k < L.length
      · obtain ⟨b, off, rfl, hlb, c0, c1, c2, c3, c4, c5, c6⟩ := HL.out k hlt
        replace c0 := (hb.cell hlb).trans c0
        replace c1 := (hb.cell hlb).trans c1
        replace c2 := (hb.cell hlb).trans c2
        replace c3 := (hb.cell hlb).trans c3
        replace c4 := (hb.cell hlb).trans c4
        replace c5 := (hb.cell hlb).trans c5
        replace c6 := (hb.cell hlb).trans c6
        go_wp2_with (go_at_call 19; refine (szEvent_any L[k] lf (HS.out _ (List.getElem_mem _)) (by omega) (by omega) _).mono ?_; rintro e w1 ⟨r, rfl, hr1, hr2, hr3, hb1⟩)
        · go_ret
          exact ⟨-1, rfl, by omega, by omega, fun h => by omega, hb.trans (hb1.mono hb.size)⟩
        · go_roundw
          case rel =>
            refine ⟨k + 1, _, by omega, by go_num, rfl, by omega, by omega, ?_, hb.trans (hb1.mono hb.size)⟩
            intro s hs'
            rw [List.take_succ_eq_append_getElem hlt, List.mem_append, List.mem_singleton] at hs'
            rcases hs' with hs' | rfl
            · exact HA.out s hs'
            · exact hr3.out (by omega)
          case measure => simp [intOf]; omega
      · go_wp2
        go_ret
        refine ⟨lf, rfl, by omega, by omega, fun _ => ⟨by omega, ?_⟩, hb⟩
        have := HA.out
        rwa [List.take_of_length_le (by omega)] at this

set_option maxHeartbeats 400000 in
set_option maxRecDepth 100000 in
theorem toEvent_any (s : Event) (w : World) :
    Calls Try.prog 21 #[s.val] w fun e w' => e = .returned s.val ∧ Below w.heap.size w w' := by
  go_enter Try.func21, Try.ntmps21
  go_wp2
  exact bodyPost_ret (v := s.val) (by simp [results, Try.results21, go_sem]) rfl ⟨rfl, (((Below.refl _ _).alloc (Nat.le_refl _) _).alloc (by simp) _).alloc (by simp; omega) _⟩

def Event.zero : Event := ⟨0, 0, ⟨#[]⟩, 0, false, false, false⟩
theorem Event.info : (Try.prog.info? 34).map (fun i => (i.zero, i.size, i.bytes)) = some (some (.agg #[.int .i64 0, .int .i64 0, .string ⟨#[]⟩, .int .i64 0, .bool false, .bool false, .bool false]), 7, 48) := by kernel_rfl
theorem Event.made (n : Nat) : (madeCells #[.int .i64 0, .int .i64 0, .string ⟨#[]⟩, .int .i64 0, .bool false, .bool false, .bool false] (n * 7)).toList = Event.flat (List.replicate n Event.zero) :=
  made_flat Event.cells Event.zero _ 7 n (by omega) rfl rfl

/-- A slice of Events that the call made: the result of a call that began in w. -/
def Event.Made (w : World) (L : List Event) (e : Ending) (w' : World) : Prop :=
  ∃ A cap, e = .returned (.slice A L.length cap) ∧ w'.ownsRow w.heap.size 34 7 (.slice A L.length cap) L.length (Event.flat L) ∧ Below w.heap.size w w'

/-- .. with a code behind it. -/
def Event.MadeC (w : World) (L : List Event) (code : Int) (e : Ending) (w' : World) : Prop :=
  ∃ A cap, e = .returned (.tuple #[.slice A L.length cap, .int .i64 code]) ∧ w'.ownsRow w.heap.size 34 7 (.slice A L.length cap) L.length (Event.flat L) ∧ Below w.heap.size w w'
theorem Event.nilC {w w' : World} {code : Int} (hb : Below w.heap.size w w') : Event.MadeC w [] code (.returned (.tuple #[.slice none 0 0, .int .i64 code])) w' :=
  ⟨none, 0, rfl, World.ownsRow_nil _ _ _ _, hb⟩

set_option maxHeartbeats 1000000 in
set_option maxRecDepth 100000 in
theorem toEventS_some (A : Option Addr) (cap : Nat) (L : List Event) (w : World) (hL : Event.At w A L) (hlen : L.length ≤ 1048576) :
    Calls Try.prog 44 #[.slice A L.length cap] w fun e w' => ∃ g, e = .returned (.slice (some ⟨g, 0, none⟩) L.length L.length) ∧ w'.ownsRow w.heap.size 34 7 (.slice (some ⟨g, 0, none⟩) L.length L.length) L.length (Event.flat L) ∧ Below w.heap.size w w' := by
  have HL := Lib.hid hL.at_
  clear hL
  obtain ⟨i0, hi, hz0, hz1, hz2⟩ := info_parts Event.info
  go_enter Try.func44, Try.ntmps44
  go_wp2_with (at_make; refine wpList_make_full _ rfl _ _ 65 rfl w.heap.size 34 i0 _ 7 Try.underlying65 hi hz0 hz1 .i64 .i64 _ _ L.length rfl rfl rfl rfl ?c1 ?c2 ?c3 ?_)
  case c1 => rw [hz2]; omega
  case c2 => unfold maxLen; omega
  case c3 => omega
  intro w1 hown hgr
  have hb0 := (Below.refl w.heap.size w).grown hgr (Nat.le_refl _) (by simp)
  go_wp2
  go_loopw [4] (fun i wr => ∃ k : Nat, k ≤ L.length ∧ i = .int .i64 k ∧ wr.ownsRow w.heap.size 34 7 (.slice (some ⟨w.heap.size, 0, none⟩) L.length L.length) L.length (Event.flat (L.take k ++ List.replicate (L.length - k) Event.zero)) ∧ Below w.heap.size w wr) (fun i _ => L.length - (intOf i).toNat)
  case atStart => exact ⟨0, Nat.zero_le _, rfl, cast (by congr 1; exact Event.made _) hown, hb0⟩
  case round =>
    obtain ⟨k, hk, rfl, hown, hb⟩ := hrel
    by_cases hlt : k < L.length
    · obtain ⟨b, off, rfl, hlb, c0, c1, c2, c3, c4, c5, c6⟩ := HL.out k hlt
      replace c0 := (hb.cell hlb).trans c0
      replace c1 := (hb.cell hlb).trans c1
      replace c2 := (hb.cell hlb).trans c2
      replace c3 := (hb.cell hlb).trans c3
      replace c4 := (hb.cell hlb).trans c4
      replace c5 := (hb.cell hlb).trans c5
      replace c6 := (hb.cell hlb).trans c6
      obtain ⟨M, hMM⟩ : ∃ M, M = L.take k ++ List.replicate (L.length - k) Event.zero := ⟨_, rfl⟩
      have hM : M.length = L.length := by rw [hMM]; simp; omega
      rw [← hMM] at hown
      have hkM : k < M.length := by omega
      have HM := Lib.hid hMM
      clear hMM hM
      go_wp2_with (go_at_call 21; refine (toEvent_any L[k] _).mono ?_; rintro e w2 ⟨rfl, hb1⟩; have hown2 := own_below hown hb1; obtain ⟨_, d0⟩ := own_cell_ex hown2 (k * 7) (by omega); obtain ⟨_, d1⟩ := own_cell_ex hown2 (k * 7 + 1) (by omega); obtain ⟨_, d2⟩ := own_cell_ex hown2 (k * 7 + 2) (by omega); obtain ⟨_, d3⟩ := own_cell_ex hown2 (k * 7 + 3) (by omega); obtain ⟨_, d4⟩ := own_cell_ex hown2 (k * 7 + 4) (by omega); obtain ⟨_, d5⟩ := own_cell_ex hown2 (k * 7 + 5) (by omega); obtain ⟨_, d6⟩ := own_cell_ex hown2 (k * 7 + 6) (by omega); have f := hown2.frozenAt)
      have hown2 := own_below hown hb1
      have ho := own_wr L[k].cells w2 _ (k * 7) hown2
      rw [Event.flat, flat_wr Event.cells 7 Event.len _ _ _ hkM, HM.out, copy_step _ hlt] at ho
      go_roundw
      case rel => exact ⟨k + 1, by omega, by go_num, ho.1, (hb.trans (hb1.mono hb.size)).grown ho.2 (Nat.le_trans hb.size hb1.size) (by simp)⟩
      case measure => simp [intOf]; omega
    · obtain rfl : k = L.length := by omega
      go_wp2
      go_ret
      exact ⟨_, rfl, by simpa using hown, hb⟩
theorem toEventS_any (A : Option Addr) (cap : Nat) (L : List Event) (w : World) (hL : Event.At w A L) (hlen : L.length ≤ 1048576) :
    Calls Try.prog 44 #[.slice A L.length cap] w (Event.Made w L) :=
  (toEventS_some A cap L w hL hlen).mono fun _ _ ⟨g, he, ho, hb⟩ => ⟨_, _, he, ho, hb⟩

set_option maxHeartbeats 400000 in
set_option maxRecDepth 100000 in
theorem eqEvent_same (s : Event) (w : World) :
    Calls Try.prog 96 #[s.val, s.val] w fun e w' => e = .returned (.bool true) ∧ Below w.heap.size w w' := by
  go_enter Try.func96, Try.ntmps96
  go_wp2
  go_ret
  exact ⟨rfl, ((Below.refl _ _).alloc (Nat.le_refl _) _).alloc (by simp) _⟩

set_option maxHeartbeats 1000000 in
set_option maxRecDepth 100000 in
theorem eqEventS_same (A B : Option Addr) (ca cb : Nat) (L : List Event) (w : World) (hA : Event.At w A L) (hB : Event.At w B L) (hlen : L.length ≤ 9223372036854775807) :
    Calls Try.prog 47 #[.slice A L.length ca, .slice B L.length cb] w fun e w' => e = .returned (.bool true) ∧ Below w.heap.size w w' := by
  have HA := Lib.hid hA.at_
  have HB := Lib.hid hB.at_
  clear hA hB
  go_enter Try.func47, Try.ntmps47
  go_wp2
  go_loopw [5] (fun i wr => ∃ k : Nat, k ≤ L.length ∧ i = .int .i64 k ∧ Below w.heap.size w wr) (fun i _ => L.length - (intOf i).toNat)
  case atStart => exact ⟨0, Nat.zero_le _, rfl, Below.refl _ _⟩
  case round =>
    obtain ⟨k, hk, rfl, hb⟩ := hrel
    by_cases hlt : k < L.length
    · obtain ⟨b, off, rfl, hlb, c0, c1, c2, c3, c4, c5, c6⟩ := HA.out k hlt
      obtain ⟨b', off', rfl, hlb', d0, d1, d2, d3, d4, d5, d6⟩ := HB.out k hlt
      replace c0 := fun x : BW wr => x.cell ((hb.cell hlb).trans c0)
      replace d0 := fun x : BW wr => x.cell ((hb.cell hlb').trans d0)
      replace c1 := fun x : BW wr => x.cell ((hb.cell hlb).trans c1)
      replace d1 := fun x : BW wr => x.cell ((hb.cell hlb').trans d1)
      replace c2 := fun x : BW wr => x.cell ((hb.cell hlb).trans c2)
      replace d2 := fun x : BW wr => x.cell ((hb.cell hlb').trans d2)
      replace c3 := fun x : BW wr => x.cell ((hb.cell hlb).trans c3)
      replace d3 := fun x : BW wr => x.cell ((hb.cell hlb').trans d3)
      replace c4 := fun x : BW wr => x.cell ((hb.cell hlb).trans c4)
      replace d4 := fun x : BW wr => x.cell ((hb.cell hlb').trans d4)
      replace c5 := fun x : BW wr => x.cell ((hb.cell hlb).trans c5)
      replace d5 := fun x : BW wr => x.cell ((hb.cell hlb').trans d5)
      replace c6 := fun x : BW wr => x.cell ((hb.cell hlb).trans c6)
      replace d6 := fun x : BW wr => x.cell ((hb.cell hlb').trans d6)
      go_wp2
      refine wp_region_bw (by kernel_rfl) (by kernel_rfl) ?_
      repeat (go_big_quiet_step ((go_at_call 96; exact bw_of _ (eqEvent_same L[k] _))))
      refine wpQuiet_nil ?_
      intro wq hx
      have hq := bw_out hx
      clear hx
      clear c0 d0 c1 d1 c2 d2 c3 d3 c4 d4 c5 d5 c6 d6
      go_wp2
      go_roundw
      case rel => exact ⟨k + 1, by omega, by go_num, hb.trans (hq.mono hb.size)⟩
      case measure => simp [intOf]; omega
    · go_wp2
      go_ret
      exact ⟨rfl, hb⟩

def Event.mark (q : Int) : Event := ⟨q, (q + 1), markT (q + 1 + 1), (q + 1 + 1 + 1), (q + 1 + 1 + 1 + 1) % 3 == 0, (q + 1 + 1 + 1 + 1 + 1) % 3 == 0, (q + 1 + 1 + 1 + 1 + 1 + 1) % 3 == 0⟩
def Event.marks (m : Int) (n : Nat) : List Event := (List.range n).map fun i => Event.mark (m + 7 * (i : Nat))
theorem Event.marks_len (m : Int) (n : Nat) : (Event.marks m n).length = n := by simp [Event.marks]

set_option maxHeartbeats 2000000 in
set_option maxRecDepth 100000 in
theorem markEventS_any (base : Nat) (A : Option Addr) (cap : Nat) (L : List Event) (m : Int) (w : World) (hL : w.ownsRow base 34 7 (.slice A L.length cap) L.length (Event.flat L)) (hlen : L.length ≤ 1048576) (h1 : 1 ≤ m) (h2 : m ≤ 10000000) :
    Calls Try.prog 48 #[.slice A L.length cap, .int .i64 m] w fun e w' => e = .returned (.int .i64 (m + 7 * (L.length : Nat))) ∧ w'.ownsRow base 34 7 (.slice A L.length cap) L.length (Event.flat (Event.marks m L.length)) ∧ w.grownBy w' (A.map (·.block)) := by
  have HS := Lib.hid (own_shape hL)
  go_enter Try.func48, Try.ntmps48
  go_wp2
  go_loopw [1, 5] (fun kk i wr => ∃ (k : Nat) (q : Int), k ≤ L.length ∧ i = .int .i64 k ∧ kk = .int .i64 q ∧ Hid (q = m + 7 * (k : Nat)) ∧ 1 ≤ q ∧ q ≤ 20000000 ∧ wr.ownsRow base 34 7 (.slice A L.length cap) L.length (Event.flat (marksOf (fun i => Event.mark (m + 7 * (i : Nat))) L k)) ∧ w.grownBy wr (A.map (·.block))) (fun _ i _ => L.length - (intOf i).toNat)
  case atStart => exact ⟨0, m, Nat.zero_le _, rfl, rfl, by simp [Hid], h1, by omega, by rw [marksOf_zero]; exact hL, World.grownBy.refl _ _⟩
  case round =>
    obtain ⟨k, q, hk, rfl, rfl, hq, hq1, hq2, hown, hgr⟩ := hrel
    by_cases hlt : k < L.length
    · obtain ⟨g, rfl, hg⟩ : ∃ g, A = some ⟨g, 0, none⟩ ∧ base ≤ g := by
        obtain ⟨A', cap', e, _, _, h⟩ := HS.out
        injection e with e1 e2 e3
        rcases h with ⟨_, h, _⟩ | ⟨g, rfl, hg, _⟩
        · omega
        · exact ⟨g, e1, hg⟩
      simp only [Option.map_some] at hgr
      have hqq : q + 7 ≤ 20000000 := by have := hq.out; omega
      have hM := marksOf_len (fun i => Event.mark (m + 7 * (i : Nat))) L hk
      obtain ⟨M, hMM⟩ : ∃ M, M = marksOf (fun i => Event.mark (m + 7 * (i : Nat))) L k := ⟨_, rfl⟩
      rw [← hMM] at hown hM
      have hkM : k < M.length := by omega
      have hn := Lib.hid hM
      have HM := Lib.hid hMM
      clear hMM hM
      have f := hown.frozenAt
      obtain ⟨_, d0⟩ := own_cell_ex hown (k * 7) (by omega)
      obtain ⟨_, d1⟩ := own_cell_ex hown (k * 7 + 1) (by omega)
      obtain ⟨_, d2⟩ := own_cell_ex hown (k * 7 + 2) (by omega)
      obtain ⟨_, d3⟩ := own_cell_ex hown (k * 7 + 3) (by omega)
      obtain ⟨_, d4⟩ := own_cell_ex hown (k * 7 + 4) (by omega)
      obtain ⟨_, d5⟩ := own_cell_ex hown (k * 7 + 5) (by omega)
      obtain ⟨_, d6⟩ := own_cell_ex hown (k * 7 + 6) (by omega)
      have H0 := Lib.hid hown
      clear hown
      go_wp2_with fail
      refine (markText_any (q + 1 + 1) (by omega) (by omega) _).mono ?_
      rintro e w1 ⟨rfl, hb1⟩
      have P1 := own_wr [.int .i64 q, .int .i64 (q + 1)] wr _ (k * 7) H0.out
      have Q1 := own_below P1.1 hb1
      have G1 := Lib.hid (grown_tr hgr (grown_tr P1.2 (grown_below (row := some g) hb1)))
      clear f d0 d1 d2 d3 d4 d5 d6
      have f := Q1.frozenAt
      obtain ⟨_, d2⟩ := own_cell_ex Q1 (k * 7 + 2) (by have := hn.out; omega)
      obtain ⟨_, d3⟩ := own_cell_ex Q1 (k * 7 + 3) (by have := hn.out; omega)
      obtain ⟨_, d4⟩ := own_cell_ex Q1 (k * 7 + 4) (by have := hn.out; omega)
      obtain ⟨_, d5⟩ := own_cell_ex Q1 (k * 7 + 5) (by have := hn.out; omega)
      obtain ⟨_, d6⟩ := own_cell_ex Q1 (k * 7 + 6) (by have := hn.out; omega)
      have H1 := Lib.hid Q1
      clear P1 Q1 hb1
      go_wp2
      have R := own_wr [.string (markT (q + 1 + 1)), .int .i64 (q + 1 + 1 + 1), .bool ((q + 1 + 1 + 1 + 1) % 3 == 0), .bool ((q + 1 + 1 + 1 + 1 + 1) % 3 == 0), .bool ((q + 1 + 1 + 1 + 1 + 1 + 1) % 3 == 0)] w1 _ (k * 7 + 2) H1.out
      have E : Event.flat (marksOf (fun i => Event.mark (m + 7 * (i : Nat))) L (k + 1)) = wrL (Event.flat M) (k * 7) (Event.mark q).cells := by
        rw [Event.flat, Event.flat, flat_wr Event.cells 7 Event.len _ _ _ hkM, HM.out, ← marksOf_succ _ _ hlt, hq.out]
      go_roundw
      case rel => exact ⟨k + 1, q + 7, by omega, by go_num, by go_num, (by have := hq.out; unfold Hid; omega), by omega, by omega, by rw [E]; exact R.1, grown_tr G1.out R.2⟩
      case measure => simp [intOf]; omega
    · obtain rfl : k = L.length := by omega
      go_wp2
      go_ret
      refine ⟨ret_i hq.out, ?_, hgr⟩
      rw [marksOf_all] at hown
      exact hown

end Go.Proofs.Ythhfhdekhgkcaaa
