/-
  Lists of int64: a slice of them in memory, and the laws' own functions over them (equality, marks).
-/
import Derived.Test.YthhfhdekhgkcaaaMark
namespace Go.Proofs.Ythhfhdekhgkcaaa
open Go.RowKit

def Ints.cell (x : Int) : List Value := [.int .i64 x]
def Ints.flat (L : List Int) : List Value := L.flatMap Ints.cell
theorem Ints.len (x : Int) : (Ints.cell x).length = 1 := rfl
theorem Ints.ones (L : List Int) : ∀ u ∈ Ints.flat L, u.oneCell' = true := by
  intro u hu
  simp only [Ints.flat, List.mem_flatMap, Ints.cell, List.mem_singleton] at hu
  obtain ⟨s, _, rfl⟩ := hu
  rfl
def Ints.At (w : World) (A : Option Addr) (L : List Int) : Prop := Reads w 1 A L.length (Ints.flat L)
theorem Ints.At.below {w w' : World} {A : Option Addr} {L : List Int} (h : Ints.At w A L) (hb : Below w.heap.size w w') : Ints.At w' A L := Reads.below h hb
theorem Ints.At.of_own {w : World} {A : Option Addr} {L : List Int} {base : Nat} {e : TypeId} {cap : Nat} (h : w.ownsRow base e 1 (.slice A L.length cap) L.length (Ints.flat L)) : Ints.At w A L := Reads.of_own h
theorem Ints.At.at_ {w : World} {A : Option Addr} {L : List Int} (h : Ints.At w A L) : ∀ k (hk : k < L.length), ∃ b off, A = some ⟨b, off, none⟩ ∧ b < w.heap.size ∧ w.cell? ⟨b, off + k, none⟩ = some (.int .i64 L[k]) := by
  intro k hk
  obtain ⟨b, off, e, hb, hc⟩ := h.2 (by omega)
  have g := flat_get Ints.cell 1 Ints.len L k 0 hk (by omega)
  rw [Nat.mul_one, Nat.add_zero] at g
  exact ⟨b, off, e, hb, hc k _ (g.trans rfl)⟩
theorem Ints.info : (Try.prog.info? 2).map (fun i => (i.zero, i.size, i.bytes)) = some (some (.int .i64 0), 1, 8) := by kernel_rfl
def Ints.Made (w : World) (L : List Int) (e : Ending) (w' : World) : Prop :=
  ∃ A cap, e = .returned (.slice A L.length cap) ∧ w'.ownsRow w.heap.size 2 1 (.slice A L.length cap) L.length (Ints.flat L) ∧ Below w.heap.size w w'

/-- .. with a code behind it. -/
def Ints.MadeC (w : World) (L : List Int) (code : Int) (e : Ending) (w' : World) : Prop :=
  ∃ A cap, e = .returned (.tuple #[.slice A L.length cap, .int .i64 code]) ∧ w'.ownsRow w.heap.size 2 1 (.slice A L.length cap) L.length (Ints.flat L) ∧ Below w.heap.size w w'
theorem Ints.nilC {w w' : World} {code : Int} (hb : Below w.heap.size w w') : Ints.MadeC w [] code (.returned (.tuple #[.slice none 0 0, .int .i64 code])) w' :=
  ⟨none, 0, rfl, World.ownsRow_nil _ _ _ _, hb⟩

set_option maxHeartbeats 1000000 in
set_option maxRecDepth 100000 in
theorem eqInt64S_same (A B : Option Addr) (ca cb : Nat) (L : List Int) (w : World) (hA : Ints.At w A L) (hB : Ints.At w B L) (hlen : L.length ≤ 9223372036854775807) :
    Calls Try.prog 55 #[.slice A L.length ca, .slice B L.length cb] w fun e w' => e = .returned (.bool true) ∧ Below w.heap.size w w' := by
  have HA := Lib.hid hA.at_
  have HB := Lib.hid hB.at_
  clear hA hB
  go_enter Try.func55, Try.ntmps55
  go_wp2
  go_loopw [5] (fun i wr => ∃ k : Nat, k ≤ L.length ∧ i = .int .i64 k ∧ Below w.heap.size w wr) (fun i _ => L.length - (intOf i).toNat)
  case atStart => exact ⟨0, Nat.zero_le _, rfl, Below.refl _ _⟩
  case round =>
    obtain ⟨k, hk, rfl, hb⟩ := hrel
    by_cases hlt : k < L.length
    · obtain ⟨b, off, rfl, hlb, c0⟩ := HA.out k hlt
      obtain ⟨b', off', rfl, hlb', d0⟩ := HB.out k hlt
      replace c0 := fun x : BW wr => x.cell ((hb.cell hlb).trans c0)
      replace d0 := fun x : BW wr => x.cell ((hb.cell hlb').trans d0)
      go_wp2
      refine wp_region_bw (by kernel_rfl) (by kernel_rfl) ?_
      repeat (go_big_quiet_step (fail))
      refine wpQuiet_nil ?_
      intro wq hx
      have hq := bw_out hx
      clear hx c0 d0
      go_wp2
      go_roundw
      case rel => exact ⟨k + 1, by omega, by go_num, hb.trans (hq.mono hb.size)⟩
      case measure => simp [intOf]; omega
    · go_wp2
      go_ret
      exact ⟨rfl, hb⟩

def Ints.mark (q : Int) : Int := q
def Ints.marks (m : Int) (n : Nat) : List Int := (List.range n).map fun i => Ints.mark (m + (i : Nat))
theorem Ints.marks_len (m : Int) (n : Nat) : (Ints.marks m n).length = n := by simp [Ints.marks]

set_option maxHeartbeats 1000000 in
set_option maxRecDepth 100000 in
theorem markInt64S_any (base : Nat) (A : Option Addr) (cap : Nat) (L : List Int) (m : Int) (w : World) (hL : w.ownsRow base 2 1 (.slice A L.length cap) L.length (Ints.flat L)) (hlen : L.length ≤ 1048576) (h1 : 1 ≤ m) (h2 : m ≤ 10000000) :
    Calls Try.prog 56 #[.slice A L.length cap, .int .i64 m] w fun e w' => e = .returned (.int .i64 (m + (L.length : Nat))) ∧ w'.ownsRow base 2 1 (.slice A L.length cap) L.length (Ints.flat (Ints.marks m L.length)) ∧ w.grownBy w' (A.map (·.block)) := by
  have HS := Lib.hid (own_shape hL)
  go_enter Try.func56, Try.ntmps56
  go_wp2
  go_loopw [1, 5] (fun kk i wr => ∃ (k : Nat) (q : Int), k ≤ L.length ∧ i = .int .i64 k ∧ kk = .int .i64 q ∧ Hid (q = m + (k : Nat)) ∧ 1 ≤ q ∧ q ≤ 20000000 ∧ wr.ownsRow base 2 1 (.slice A L.length cap) L.length (Ints.flat (marksOf (fun i => Ints.mark (m + (i : Nat))) L k)) ∧ w.grownBy wr (A.map (·.block))) (fun _ i _ => L.length - (intOf i).toNat)
  case atStart => exact ⟨0, m, Nat.zero_le _, rfl, rfl, by simp [Hid], h1, by omega, by rw [marksOf_zero]; exact hL, World.grownBy.refl _ _⟩
  case round =>
    obtain ⟨k, q, hk, rfl, rfl, hq, hq1, hq2, hown, hgr⟩ := hrel
    by_cases hlt : k < L.length
    · obtain ⟨g, rfl, hg⟩ : ∃ g, A = some ⟨g, 0, none⟩ ∧ base ≤ g := by
        obtain ⟨A', cap', e, _, _, h⟩ := HS.out
        injection e with e1 e2 e3
        rcases h with ⟨_, h, _⟩ | ⟨g, rfl, hg, _⟩
        · omega
        · exact ⟨g, e1, hg⟩
      simp only [Option.map_some] at hgr
      have hqq : q + 1 ≤ 20000000 := by have := hq.out; omega
      have hM := marksOf_len (fun i => Ints.mark (m + (i : Nat))) L hk
      obtain ⟨M, hMM⟩ : ∃ M, M = marksOf (fun i => Ints.mark (m + (i : Nat))) L k := ⟨_, rfl⟩
      rw [← hMM] at hown hM
      have hkM : k < M.length := by omega
      have HM := Lib.hid hMM
      clear hMM hM
      have f := hown.frozenAt
      obtain ⟨_, d0⟩ := own_cell_ex hown k (by omega)
      have H0 := Lib.hid hown
      have G0 := Lib.hid hgr
      clear hown
      go_wp2
      have R := own_wr [.int .i64 q] wr _ k H0.out
      have E : Ints.flat (marksOf (fun i => Ints.mark (m + (i : Nat))) L (k + 1)) = wrL (Ints.flat M) k (Ints.cell (Ints.mark q)) := by
        have := flat_wr Ints.cell 1 Ints.len (Ints.mark q) M k hkM
        rw [Nat.mul_one] at this
        rw [Ints.flat, Ints.flat, this, HM.out, ← marksOf_succ _ _ hlt, hq.out]
      go_roundw
      case rel => exact ⟨k + 1, q + 1, by omega, by go_num, by go_num, (by have := hq.out; unfold Hid; omega), by omega, by omega, by rw [E]; exact R.1, grown_tr G0.out R.2⟩
      case measure => simp [intOf]; omega
    · obtain rfl : k = L.length := by omega
      go_wp2
      go_ret
      refine ⟨ret_i hq.out, ?_, hgr⟩
      rw [marksOf_all] at hown
      exact hown

set_option maxHeartbeats 1000000 in
set_option maxRecDepth 100000 in
theorem heldInt64S_any (A : Option Addr) (cap : Nat) (n : Nat) (m : Int) (w : World) (hL : Ints.At w A (Ints.marks m n)) (hlen : n ≤ 1048576) (h1 : 1 ≤ m) (h2 : m ≤ 10000000) :
    Calls Try.prog 57 #[.slice A n cap, .int .i64 m] w fun e w' => e = .returned (.int .i64 (m + (n : Nat))) ∧ Below w.heap.size w w' := by
  have HL := Lib.hid hL.at_
  clear hL
  go_enter Try.func57, Try.ntmps57
  go_wp2
  go_loopw [1, 5] (fun kk i wr => ∃ (k : Nat) (q : Int), k ≤ n ∧ i = .int .i64 k ∧ kk = .int .i64 q ∧ Hid (q = m + (k : Nat)) ∧ 1 ≤ q ∧ q ≤ 20000000 ∧ Below w.heap.size w wr) (fun _ i _ => n - (intOf i).toNat)
  case atStart => exact ⟨0, m, Nat.zero_le _, rfl, rfl, by simp [Hid], h1, by omega, Below.refl _ _⟩
  case round =>
    obtain ⟨k, q, hk, rfl, rfl, hq, hq1, hq2, hb⟩ := hrel
    by_cases hlt : k < n
    · obtain ⟨b, off, rfl, hlb, c0⟩ := HL.out k (by rw [Ints.marks_len]; exact hlt)
      have hqq : q + 1 ≤ 20000000 := by have := hq.out; omega
      simp only [Ints.marks, List.getElem_map, List.getElem_range, ← hq.out, Ints.mark] at c0
      replace c0 := (hb.cell hlb).trans c0
      go_wp2
      go_roundw
      case rel => exact ⟨k + 1, q + 1, by omega, by go_num, by go_num, (by have := hq.out; unfold Hid; omega), by omega, by omega, hb⟩
      case measure => simp [intOf]; omega
    · obtain rfl : k = n := by omega
      go_wp2
      go_ret
      exact ⟨ret_i hq.out, hb⟩
end Go.Proofs.Ythhfhdekhgkcaaa
