/-
  Clauses: the structure, a slice of them in memory, and the laws' own functions over them (size, copy, equality, marks).
-/
import Derived.Test.YthhfhdekhgkcaaaMark
namespace Go.Proofs.Ythhfhdekhgkcaaa
open Go.RowKit

structure Clause where
  code : ByteArray
  kind : Int
  peril : Int
  voluntary : Int
  reasonable : Int
  result : Int
  to : ByteArray
def Clause.cells (s : Clause) : List Value := [.string s.code, .int .i64 s.kind, .int .i64 s.peril, .int .i64 s.voluntary, .int .i64 s.reasonable, .int .i64 s.result, .string s.to]
abbrev Clause.val (s : Clause) : Value := .agg #[.string s.code, .int .i64 s.kind, .int .i64 s.peril, .int .i64 s.voluntary, .int .i64 s.reasonable, .int .i64 s.result, .string s.to]
def Clause.flat (L : List Clause) : List Value := L.flatMap Clause.cells
theorem Clause.len (s : Clause) : s.cells.length = 7 := rfl
theorem Clause.ones (L : List Clause) : ∀ u ∈ Clause.flat L, u.oneCell' = true := by
  intro u hu
  simp only [Clause.flat, List.mem_flatMap, Clause.cells, List.mem_cons, List.not_mem_nil, or_false] at hu
  obtain ⟨s, _, h⟩ := hu
  rcases h with rfl | rfl | rfl | rfl | rfl | rfl | rfl <;> rfl
/-- The list L stands in w behind the slice (A, length). -/
def Clause.At (w : World) (A : Option Addr) (L : List Clause) : Prop := Reads w 7 A L.length (Clause.flat L)
theorem Clause.At.below {w w' : World} {A : Option Addr} {L : List Clause} (h : Clause.At w A L) (hb : Below w.heap.size w w') : Clause.At w' A L := Reads.below h hb
theorem Clause.At.of_own {w : World} {A : Option Addr} {L : List Clause} {base : Nat} {e : TypeId} {cap : Nat} (h : w.ownsRow base e 7 (.slice A L.length cap) L.length (Clause.flat L)) : Clause.At w A L := Reads.of_own h
theorem Clause.At.at_ {w : World} {A : Option Addr} {L : List Clause} (h : Clause.At w A L) : ∀ k (hk : k < L.length), ∃ b off, A = some ⟨b, off, none⟩ ∧ b < w.heap.size ∧
    w.cell? ⟨b, off + k * 7, none⟩ = some (.string L[k].code) ∧
    w.cell? ⟨b, off + k * 7 + 1, none⟩ = some (.int .i64 L[k].kind) ∧
    w.cell? ⟨b, off + k * 7 + 2, none⟩ = some (.int .i64 L[k].peril) ∧
    w.cell? ⟨b, off + k * 7 + 3, none⟩ = some (.int .i64 L[k].voluntary) ∧
    w.cell? ⟨b, off + k * 7 + 4, none⟩ = some (.int .i64 L[k].reasonable) ∧
    w.cell? ⟨b, off + k * 7 + 5, none⟩ = some (.int .i64 L[k].result) ∧
    w.cell? ⟨b, off + k * 7 + 6, none⟩ = some (.string L[k].to) := by
  intro k hk
  obtain ⟨b, off, e, hb, hc⟩ := h.2 (by omega)
  have g := fun j hj => flat_get Clause.cells 7 Clause.len L k j hk hj
  refine ⟨b, off, e, hb, ?_, ?_, ?_, ?_, ?_, ?_, ?_⟩
  · have := hc (k * 7 + 0) _ ((g 0 (by omega)).trans rfl); simpa using this
  · have := hc (k * 7 + 1) _ ((g 1 (by omega)).trans rfl); simpa [Nat.add_assoc] using this
  · have := hc (k * 7 + 2) _ ((g 2 (by omega)).trans rfl); simpa [Nat.add_assoc] using this
  · have := hc (k * 7 + 3) _ ((g 3 (by omega)).trans rfl); simpa [Nat.add_assoc] using this
  · have := hc (k * 7 + 4) _ ((g 4 (by omega)).trans rfl); simpa [Nat.add_assoc] using this
  · have := hc (k * 7 + 5) _ ((g 5 (by omega)).trans rfl); simpa [Nat.add_assoc] using this
  · have := hc (k * 7 + 6) _ ((g 6 (by omega)).trans rfl); simpa [Nat.add_assoc] using this

def Clause.small (s : Clause) : Prop := s.code.size ≤ 9223372036854775807 ∧ s.to.size ≤ 9223372036854775807
def Clause.tiny (s : Clause) : Prop := s.code.size ≤ 1048576 ∧ s.to.size ≤ 1048576

set_option maxHeartbeats 400000 in
set_option maxRecDepth 100000 in
theorem szClause_any (s : Clause) (left : Int) (hs : s.small) (h1 : 0 ≤ left) (h2 : left ≤ 1048576) (w : World) :
    Calls Try.prog 15 #[s.val, .int .i64 left] w (SzPost s.tiny left w) := by
  unfold Clause.small at hs
  obtain ⟨hs0, hs1⟩ := hs
  go_enter Try.func15, Try.ntmps15
  go_wp2
  all_goals
    go_ret
    first
      | exact ⟨-1, rfl, by omega, by omega, fun h => by omega, (Below.refl _ _).alloc (Nat.le_refl _) _⟩
      | exact ⟨_, rfl, by omega, by omega, fun h => by unfold Clause.tiny; omega, (Below.refl _ _).alloc (Nat.le_refl _) _⟩

def Clause.Tiny (L : List Clause) : Prop := L.length ≤ 1048576 ∧ ∀ s ∈ L, s.tiny

set_option maxHeartbeats 400000 in
set_option maxRecDepth 100000 in
theorem szClauseS_any (A : Option Addr) (cap : Nat) (L : List Clause) (left : Int) (w : World) (hL : Clause.At w A L) (hs : ∀ s ∈ L, s.small) (hlen : L.length ≤ 9223372036854775807) (h1 : 0 ≤ left) (h2 : left ≤ 1048576) :
    Calls Try.prog 25 #[.slice A L.length cap, .int .i64 left] w (SzPost (Clause.Tiny L) left w) := by
  have HL := Lib.hid hL.at_
  have HS := Lib.hid hs
  clear hL hs
  go_enter Try.func25, Try.ntmps25
  go_wp2
  · go_ret
    exact ⟨-1, rfl, by omega, by omega, fun h => by omega, Below.refl _ _⟩
  · go_loopw [1, 5] (fun l i wr => ∃ (k : Nat) (lf : Int), k ≤ L.length ∧ i = .int .i64 k ∧ l = .int .i64 lf ∧ 0 ≤ lf ∧ lf ≤ left ∧ Hid (∀ s ∈ L.take k, s.tiny) ∧ Below w.heap.size w wr) (fun _ i _ => L.length - (intOf i).toNat)
    case atStart => exact ⟨0, _, Nat.zero_le _, rfl, rfl, by omega, by omega, (by simp [Hid]), Below.refl _ _⟩
    case round =>
      obtain ⟨k, lf, hk, rfl, rfl, hl0, hl1, HA, hb⟩ := hrel
      by_cases hlt : k < L.length
      · obtain ⟨b, off, rfl, hlb, c0, c1, c2, c3, c4, c5, c6⟩ := HL.out k hlt
        replace c0 := (hb.cell hlb).trans c0
        replace c1 := (hb.cell hlb).trans c1
        replace c2 := (hb.cell hlb).trans c2
        replace c3 := (hb.cell hlb).trans c3
        replace c4 := (hb.cell hlb).trans c4
        replace c5 := (hb.cell hlb).trans c5
        replace c6 := (hb.cell hlb).trans c6
        go_wp2_with (go_at_call 15; refine (szClause_any L[k] lf (HS.out _ (List.getElem_mem _)) (by omega) (by omega) _).mono ?_; rintro e w1 ⟨r, rfl, hr1, hr2, hr3, hb1⟩)
        · go_ret
          exact ⟨-1, rfl, by omega, by omega, fun h => by omega, hb.trans (hb1.mono hb.size)⟩
        · go_roundw
          case rel =>
            refine ⟨k + 1, _, by omega, by go_num, rfl, by omega, by omega, ?_, hb.trans (hb1.mono hb.size)⟩
            intro s hs'
            rw [List.take_succ_eq_append_getElem hlt, List.mem_append, List.mem_singleton] at hs'
            rcases hs' with hs' | rfl
            · exact HA.out s hs'
            · exact hr3.out (by omega)
          case measure => simp [intOf]; omega
      · go_wp2
        go_ret
        refine ⟨lf, rfl, by omega, by omega, fun _ => ⟨by omega, ?_⟩, hb⟩
        have := HA.out
        rwa [List.take_of_length_le (by omega)] at this

set_option maxHeartbeats 400000 in
set_option maxRecDepth 100000 in
theorem toClause_any (s : Clause) (w : World) :
    Calls Try.prog 17 #[s.val] w fun e w' => e = .returned s.val ∧ Below w.heap.size w w' := by
  go_enter Try.func17, Try.ntmps17
  go_wp2
  exact bodyPost_ret (v := s.val) (by simp [results, Try.results17, go_sem]) rfl ⟨rfl, (((Below.refl _ _).alloc (Nat.le_refl _) _).alloc (by simp) _).alloc (by simp; omega) _⟩

def Clause.zero : Clause := ⟨⟨#[]⟩, 0, 0, 0, 0, 0, ⟨#[]⟩⟩
theorem Clause.info : (Try.prog.info? 26).map (fun i => (i.zero, i.size, i.bytes)) = some (some (.agg #[.string ⟨#[]⟩, .int .i64 0, .int .i64 0, .int .i64 0, .int .i64 0, .int .i64 0, .string ⟨#[]⟩]), 7, 72) := by kernel_rfl
theorem Clause.made (n : Nat) : (madeCells #[.string ⟨#[]⟩, .int .i64 0, .int .i64 0, .int .i64 0, .int .i64 0, .int .i64 0, .string ⟨#[]⟩] (n * 7)).toList = Clause.flat (List.replicate n Clause.zero) :=
  made_flat Clause.cells Clause.zero _ 7 n (by omega) rfl rfl

/-- A slice of Clauses that the call made: the result of a call that began in w. -/
def Clause.Made (w : World) (L : List Clause) (e : Ending) (w' : World) : Prop :=
  ∃ A cap, e = .returned (.slice A L.length cap) ∧ w'.ownsRow w.heap.size 26 7 (.slice A L.length cap) L.length (Clause.flat L) ∧ Below w.heap.size w w'

/-- .. with a code behind it. -/
def Clause.MadeC (w : World) (L : List Clause) (code : Int) (e : Ending) (w' : World) : Prop :=
  ∃ A cap, e = .returned (.tuple #[.slice A L.length cap, .int .i64 code]) ∧ w'.ownsRow w.heap.size 26 7 (.slice A L.length cap) L.length (Clause.flat L) ∧ Below w.heap.size w w'
theorem Clause.nilC {w w' : World} {code : Int} (hb : Below w.heap.size w w') : Clause.MadeC w [] code (.returned (.tuple #[.slice none 0 0, .int .i64 code])) w' :=
  ⟨none, 0, rfl, World.ownsRow_nil _ _ _ _, hb⟩

set_option maxHeartbeats 1000000 in
set_option maxRecDepth 100000 in
theorem toClauseS_some (A : Option Addr) (cap : Nat) (L : List Clause) (w : World) (hL : Clause.At w A L) (hlen : L.length ≤ 1048576) :
    Calls Try.prog 27 #[.slice A L.length cap] w fun e w' => ∃ g, e = .returned (.slice (some ⟨g, 0, none⟩) L.length L.length) ∧ w'.ownsRow w.heap.size 26 7 (.slice (some ⟨g, 0, none⟩) L.length L.length) L.length (Clause.flat L) ∧ Below w.heap.size w w' := by
  have HL := Lib.hid hL.at_
  clear hL
  obtain ⟨i0, hi, hz0, hz1, hz2⟩ := info_parts Clause.info
  go_enter Try.func27, Try.ntmps27
  go_wp2_with (at_make; refine wpList_make_full _ rfl _ _ 42 rfl w.heap.size 26 i0 _ 7 Try.underlying42 hi hz0 hz1 .i64 .i64 _ _ L.length rfl rfl rfl rfl ?c1 ?c2 ?c3 ?_)
  case c1 => rw [hz2]; omega
  case c2 => unfold maxLen; omega
  case c3 => omega
  intro w1 hown hgr
  have hb0 := (Below.refl w.heap.size w).grown hgr (Nat.le_refl _) (by simp)
  go_wp2
  go_loopw [4] (fun i wr => ∃ k : Nat, k ≤ L.length ∧ i = .int .i64 k ∧ wr.ownsRow w.heap.size 26 7 (.slice (some ⟨w.heap.size, 0, none⟩) L.length L.length) L.length (Clause.flat (L.take k ++ List.replicate (L.length - k) Clause.zero)) ∧ Below w.heap.size w wr) (fun i _ => L.length - (intOf i).toNat)
  case atStart => exact ⟨0, Nat.zero_le _, rfl, cast (by congr 1; exact Clause.made _) hown, hb0⟩
  case round =>
    obtain ⟨k, hk, rfl, hown, hb⟩ := hrel
    by_cases hlt : k < L.length
    · obtain ⟨b, off, rfl, hlb, c0, c1, c2, c3, c4, c5, c6⟩ := HL.out k hlt
      replace c0 := (hb.cell hlb).trans c0
      replace c1 := (hb.cell hlb).trans c1
      replace c2 := (hb.cell hlb).trans c2
      replace c3 := (hb.cell hlb).trans c3
      replace c4 := (hb.cell hlb).trans c4
      replace c5 := (hb.cell hlb).trans c5
      replace c6 := (hb.cell hlb).trans c6
      obtain ⟨M, hMM⟩ : ∃ M, M = L.take k ++ List.replicate (L.length - k) Clause.zero := ⟨_, rfl⟩
      have hM : M.length = L.length := by rw [hMM]; simp; omega
      rw [← hMM] at hown
      have hkM : k < M.length := by omega
      have HM := Lib.hid hMM
      clear hMM hM
      go_wp2_with (go_at_call 17; refine (toClause_any L[k] _).mono ?_; rintro e w2 ⟨rfl, hb1⟩; have hown2 := own_below hown hb1; obtain ⟨_, d0⟩ := own_cell_ex hown2 (k * 7) (by omega); obtain ⟨_, d1⟩ := own_cell_ex hown2 (k * 7 + 1) (by omega); obtain ⟨_, d2⟩ := own_cell_ex hown2 (k * 7 + 2) (by omega); obtain ⟨_, d3⟩ := own_cell_ex hown2 (k * 7 + 3) (by omega); obtain ⟨_, d4⟩ := own_cell_ex hown2 (k * 7 + 4) (by omega); obtain ⟨_, d5⟩ := own_cell_ex hown2 (k * 7 + 5) (by omega); obtain ⟨_, d6⟩ := own_cell_ex hown2 (k * 7 + 6) (by omega); have f := hown2.frozenAt)
      have hown2 := own_below hown hb1
      have ho := own_wr L[k].cells w2 _ (k * 7) hown2
      rw [Clause.flat, flat_wr Clause.cells 7 Clause.len _ _ _ hkM, HM.out, copy_step _ hlt] at ho
      go_roundw
      case rel => exact ⟨k + 1, by omega, by go_num, ho.1, (hb.trans (hb1.mono hb.size)).grown ho.2 (Nat.le_trans hb.size hb1.size) (by simp)⟩
      case measure => simp [intOf]; omega
    · obtain rfl : k = L.length := by omega
      go_wp2
      go_ret
      exact ⟨_, rfl, by simpa using hown, hb⟩
theorem toClauseS_any (A : Option Addr) (cap : Nat) (L : List Clause) (w : World) (hL : Clause.At w A L) (hlen : L.length ≤ 1048576) :
    Calls Try.prog 27 #[.slice A L.length cap] w (Clause.Made w L) :=
  (toClauseS_some A cap L w hL hlen).mono fun _ _ ⟨g, he, ho, hb⟩ => ⟨_, _, he, ho, hb⟩

set_option maxHeartbeats 400000 in
set_option maxRecDepth 100000 in
theorem eqClause_same (s : Clause) (w : World) :
    Calls Try.prog 75 #[s.val, s.val] w fun e w' => e = .returned (.bool true) ∧ Below w.heap.size w w' := by
  go_enter Try.func75, Try.ntmps75
  go_wp2
  go_ret
  exact ⟨rfl, ((Below.refl _ _).alloc (Nat.le_refl _) _).alloc (by simp) _⟩

set_option maxHeartbeats 1000000 in
set_option maxRecDepth 100000 in
theorem eqClauseS_same (A B : Option Addr) (ca cb : Nat) (L : List Clause) (w : World) (hA : Clause.At w A L) (hB : Clause.At w B L) (hlen : L.length ≤ 9223372036854775807) :
    Calls Try.prog 29 #[.slice A L.length ca, .slice B L.length cb] w fun e w' => e = .returned (.bool true) ∧ Below w.heap.size w w' := by
  have HA := Lib.hid hA.at_
  have HB := Lib.hid hB.at_
  clear hA hB
  go_enter Try.func29, Try.ntmps29
  go_wp2
  go_loopw [5] (fun i wr => ∃ k : Nat, k ≤ L.length ∧ i = .int .i64 k ∧ Below w.heap.size w wr) (fun i _ => L.length - (intOf i).toNat)
  case atStart => exact ⟨0, Nat.zero_le _, rfl, Below.refl _ _⟩
  case round =>
    obtain ⟨k, hk, rfl, hb⟩ := hrel
    by_cases hlt : k < L.length
    · obtain ⟨b, off, rfl, hlb, c0, c1, c2, c3, c4, c5, c6⟩ := HA.out k hlt
      obtain ⟨b', off', rfl, hlb', d0, d1, d2, d3, d4, d5, d6⟩ := HB.out k hlt
      replace c0 := fun x : BW wr => x.cell ((hb.cell hlb).trans c0)
      replace d0 := fun x : BW wr => x.cell ((hb.cell hlb').trans d0)
      replace c1 := fun x : BW wr => x.cell ((hb.cell hlb).trans c1)
      replace d1 := fun x : BW wr => x.cell ((hb.cell hlb').trans d1)
      replace c2 := fun x : BW wr => x.cell ((hb.cell hlb).trans c2)
      replace d2 := fun x : BW wr => x.cell ((hb.cell hlb').trans d2)
      replace c3 := fun x : BW wr => x.cell ((hb.cell hlb).trans c3)
      replace d3 := fun x : BW wr => x.cell ((hb.cell hlb').trans d3)
      replace c4 := fun x : BW wr => x.cell ((hb.cell hlb).trans c4)
      replace d4 := fun x : BW wr => x.cell ((hb.cell hlb').trans d4)
      replace c5 := fun x : BW wr => x.cell ((hb.cell hlb).trans c5)
      replace d5 := fun x : BW wr => x.cell ((hb.cell hlb').trans d5)
      replace c6 := fun x : BW wr => x.cell ((hb.cell hlb).trans c6)
      replace d6 := fun x : BW wr => x.cell ((hb.cell hlb').trans d6)
      go_wp2
      refine wp_region_bw (by kernel_rfl) (by kernel_rfl) ?_
      repeat (go_big_quiet_step ((go_at_call 75; exact bw_of _ (eqClause_same L[k] _))))
      refine wpQuiet_nil ?_
      intro wq hx
      have hq := bw_out hx
      clear hx
      clear c0 d0 c1 d1 c2 d2 c3 d3 c4 d4 c5 d5 c6 d6
      go_wp2
      go_roundw
      case rel => exact ⟨k + 1, by omega, by go_num, hb.trans (hq.mono hb.size)⟩
      case measure => simp [intOf]; omega
    · go_wp2
      go_ret
      exact ⟨rfl, hb⟩

def Clause.mark (q : Int) : Clause := ⟨markT q, (q + 1), (q + 1 + 1), (q + 1 + 1 + 1), (q + 1 + 1 + 1 + 1), (q + 1 + 1 + 1 + 1 + 1), markT (q + 1 + 1 + 1 + 1 + 1 + 1)⟩
def Clause.marks (m : Int) (n : Nat) : List Clause := (List.range n).map fun i => Clause.mark (m + 7 * (i : Nat))
theorem Clause.marks_len (m : Int) (n : Nat) : (Clause.marks m n).length = n := by simp [Clause.marks]

set_option maxHeartbeats 2000000 in
set_option maxRecDepth 100000 in
theorem markClauseS_any (base : Nat) (A : Option Addr) (cap : Nat) (L : List Clause) (m : Int) (w : World) (hL : w.ownsRow base 26 7 (.slice A L.length cap) L.length (Clause.flat L)) (hlen : L.length ≤ 1048576) (h1 : 1 ≤ m) (h2 : m ≤ 10000000) :
    Calls Try.prog 39 #[.slice A L.length cap, .int .i64 m] w fun e w' => e = .returned (.int .i64 (m + 7 * (L.length : Nat))) ∧ w'.ownsRow base 26 7 (.slice A L.length cap) L.length (Clause.flat (Clause.marks m L.length)) ∧ w.grownBy w' (A.map (·.block)) := by
  have HS := Lib.hid (own_shape hL)
  go_enter Try.func39, Try.ntmps39
  go_wp2
  go_loopw [1, 5] (fun kk i wr => ∃ (k : Nat) (q : Int), k ≤ L.length ∧ i = .int .i64 k ∧ kk = .int .i64 q ∧ Hid (q = m + 7 * (k : Nat)) ∧ 1 ≤ q ∧ q ≤ 20000000 ∧ wr.ownsRow base 26 7 (.slice A L.length cap) L.length (Clause.flat (marksOf (fun i => Clause.mark (m + 7 * (i : Nat))) L k)) ∧ w.grownBy wr (A.map (·.block))) (fun _ i _ => L.length - (intOf i).toNat)
  case atStart => exact ⟨0, m, Nat.zero_le _, rfl, rfl, by simp [Hid], h1, by omega, by rw [marksOf_zero]; exact hL, World.grownBy.refl _ _⟩
  case round =>
    obtain ⟨k, q, hk, rfl, rfl, hq, hq1, hq2, hown, hgr⟩ := hrel
    by_cases hlt : k < L.length
    · obtain ⟨g, rfl, hg⟩ : ∃ g, A = some ⟨g, 0, none⟩ ∧ base ≤ g := by
        obtain ⟨A', cap', e, _, _, h⟩ := HS.out
        injection e with e1 e2 e3
        rcases h with ⟨_, h, _⟩ | ⟨g, rfl, hg, _⟩
        · omega
        · exact ⟨g, e1, hg⟩
      simp only [Option.map_some] at hgr
      have hqq : q + 7 ≤ 20000000 := by have := hq.out; omega
      have hM := marksOf_len (fun i => Clause.mark (m + 7 * (i : Nat))) L hk
      obtain ⟨M, hMM⟩ : ∃ M, M = marksOf (fun i => Clause.mark (m + 7 * (i : Nat))) L k := ⟨_, rfl⟩
      rw [← hMM] at hown hM
      have hkM : k < M.length := by omega
      have hn := Lib.hid hM
      have HM := Lib.hid hMM
      clear hMM hM
      have f := hown.frozenAt
      obtain ⟨_, d0⟩ := own_cell_ex hown (k * 7) (by omega)
      obtain ⟨_, d1⟩ := own_cell_ex hown (k * 7 + 1) (by omega)
      obtain ⟨_, d2⟩ := own_cell_ex hown (k * 7 + 2) (by omega)
      obtain ⟨_, d3⟩ := own_cell_ex hown (k * 7 + 3) (by omega)
      obtain ⟨_, d4⟩ := own_cell_ex hown (k * 7 + 4) (by omega)
      obtain ⟨_, d5⟩ := own_cell_ex hown (k * 7 + 5) (by omega)
      obtain ⟨_, d6⟩ := own_cell_ex hown (k * 7 + 6) (by omega)
      have H0 := Lib.hid hown
      clear hown
      go_wp2_with fail
      refine (markText_any q (by omega) (by omega) _).mono ?_
      rintro e w1 ⟨rfl, hb1⟩
      have P1 := own_wr [] wr _ (k * 7) H0.out
      have Q1 := own_below P1.1 hb1
      have G1 := Lib.hid (grown_tr hgr (grown_tr P1.2 (grown_below (row := some g) hb1)))
      clear f d0 d1 d2 d3 d4 d5 d6
      have f := Q1.frozenAt
      obtain ⟨_, d0⟩ := own_cell_ex Q1 (k * 7) (by have := hn.out; omega)
      obtain ⟨_, d1⟩ := own_cell_ex Q1 (k * 7 + 1) (by have := hn.out; omega)
      obtain ⟨_, d2⟩ := own_cell_ex Q1 (k * 7 + 2) (by have := hn.out; omega)
      obtain ⟨_, d3⟩ := own_cell_ex Q1 (k * 7 + 3) (by have := hn.out; omega)
      obtain ⟨_, d4⟩ := own_cell_ex Q1 (k * 7 + 4) (by have := hn.out; omega)
      obtain ⟨_, d5⟩ := own_cell_ex Q1 (k * 7 + 5) (by have := hn.out; omega)
      obtain ⟨_, d6⟩ := own_cell_ex Q1 (k * 7 + 6) (by have := hn.out; omega)
      have H1 := Lib.hid Q1
      clear P1 Q1 hb1
      go_wp2_with fail
      refine (markText_any (q + 1 + 1 + 1 + 1 + 1 + 1) (by omega) (by omega) _).mono ?_
      rintro e w2 ⟨rfl, hb2⟩
      have P2 := own_wr [.string (markT q), .int .i64 (q + 1), .int .i64 (q + 1 + 1), .int .i64 (q + 1 + 1 + 1), .int .i64 (q + 1 + 1 + 1 + 1), .int .i64 (q + 1 + 1 + 1 + 1 + 1)] w1 _ (k * 7) H1.out
      have Q2 := own_below P2.1 hb2
      have G2 := Lib.hid (grown_tr G1.out (grown_tr P2.2 (grown_below (row := some g) hb2)))
      clear f d0 d1 d2 d3 d4 d5 d6
      have f := Q2.frozenAt
      obtain ⟨_, d6⟩ := own_cell_ex Q2 (k * 7 + 6) (by have := hn.out; omega)
      have H2 := Lib.hid Q2
      clear P2 Q2 hb2
      go_wp2
      have R := own_wr [.string (markT (q + 1 + 1 + 1 + 1 + 1 + 1))] w2 _ (k * 7 + 6) H2.out
      have E : Clause.flat (marksOf (fun i => Clause.mark (m + 7 * (i : Nat))) L (k + 1)) = wrL (Clause.flat M) (k * 7) (Clause.mark q).cells := by
        rw [Clause.flat, Clause.flat, flat_wr Clause.cells 7 Clause.len _ _ _ hkM, HM.out, ← marksOf_succ _ _ hlt, hq.out]
      go_roundw
      case rel => exact ⟨k + 1, q + 7, by omega, by go_num, by go_num, (by have := hq.out; unfold Hid; omega), by omega, by omega, by rw [E]; exact R.1, grown_tr G2.out R.2⟩
      case measure => simp [intOf]; omega
    · obtain rfl : k = L.length := by omega
      go_wp2
      go_ret
      refine ⟨ret_i hq.out, ?_, hgr⟩
      rw [marksOf_all] at hown
      exact hown

end Go.Proofs.Ythhfhdekhgkcaaa
