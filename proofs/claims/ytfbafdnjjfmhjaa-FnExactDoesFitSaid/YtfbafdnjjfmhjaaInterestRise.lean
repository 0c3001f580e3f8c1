/-
  rising over lists of impl.Interest.
-/
import Derived.Test.YtfbafdnjjfmhjaaInterest
import Derived.Test.YtfbafdnjjfmhjaaCompare
namespace Go.Proofs.Ytfbafdnjjfmhjaa
open Go.RowKit

/-- The function value (f, captured) answers c on pairs of elements of L, in every world behind W, and makes memory only. -/
structure Fun2 {α : Type} (P : Program) (f : FuncId) (fc : Array Value) (W : World) (v : α → Value) (c : α → α → Int) (L : List α) : Prop where
  enter : ∀ args w, (callFunc f args).run P w = .ok (.enter f args) w
  calls : ∀ w', Below W.heap.size W w' → ∀ x ∈ L, ∀ y ∈ L, Calls P f (#[v x, v y] ++ fc) w' fun e w'' => e = .returned (.int .i64 (c x y)) ∧ Below w'.heap.size w' w''
def risesB {α : Type} (c : α → α → Int) (L : List α) : Bool := linked (fun _ => true) (fun a b => decide (c a b < 0)) none L
theorem lk_start {α : Type} (rel : α → α → Bool) (L : List α) : linked (fun _ => true) rel none L = linked (fun _ => true) rel (prevAt L 1) (L.drop 1) := by
  cases L <;> simp [linked, prevAt]

set_option maxHeartbeats 2000000 in
set_option maxRecDepth 100000 in
theorem risingInterest (f : FuncId) (fc : Array Value) (A : Option Addr) (cap : Nat) (L : List Interest) (c : Interest → Interest → Int) (w : World) (hL : Interest.At w A L) (hf : Fun2 Try.prog f fc w Interest.val c L) (hlen : L.length ≤ 9223372036854775806) :
    Calls Try.prog 114 #[.slice A L.length cap, .func (.func f) #[] fc] w fun e w' => e = .returned (.bool (risesB c L)) ∧ Below w.heap.size w w' := by
  have HL := Lib.hid hL.at_
  have HF := Lib.hid hf.calls
  have hcf := hf.enter
  have H0 := Lib.hid (lk_start (fun a b => decide (c a b < 0)) L)
  clear hL hf
  go_enter Try.func114, Try.ntmps114
  go_wp2
  go_loopw [5] (fun i wr => ∃ j : Nat, j ≤ L.length ∧ i = .int .i64 ((j + 1 : Nat) : Int) ∧ Hid (risesB c L = linked (fun _ => true) (fun a b => decide (c a b < 0)) (prevAt L (j + 1)) (L.drop (j + 1))) ∧ Below w.heap.size w wr) (fun i _ => L.length - (intOf i).toNat)
  case atStart => exact ⟨0, Nat.zero_le _, rfl, H0, Below.refl _ _⟩
  case round =>
    obtain ⟨j, hj, rfl, HE, hb⟩ := hrel
    by_cases hlt : j + 1 < L.length
    · obtain ⟨b, off, rfl, hlb, c0, c1, c2, c3, c4⟩ := HL.out (j + 1) hlt
      obtain ⟨b2, off2, he, _, p0, p1, p2, p3, p4⟩ := HL.out j (by omega)
      obtain ⟨rfl, rfl⟩ : b = b2 ∧ off = off2 := by injection he with he; injection he with he1 he2; exact ⟨he1, he2⟩
      clear he
      replace c0 := fun x : BW wr => x.cell ((hb.cell hlb).trans c0)
      replace p0 := fun x : BW wr => x.cell ((hb.cell hlb).trans p0)
      replace c1 := fun x : BW wr => x.cell ((hb.cell hlb).trans c1)
      replace p1 := fun x : BW wr => x.cell ((hb.cell hlb).trans p1)
      replace c2 := fun x : BW wr => x.cell ((hb.cell hlb).trans c2)
      replace p2 := fun x : BW wr => x.cell ((hb.cell hlb).trans p2)
      replace c3 := fun x : BW wr => x.cell ((hb.cell hlb).trans c3)
      replace p3 := fun x : BW wr => x.cell ((hb.cell hlb).trans p3)
      replace c4 := fun x : BW wr => x.cell ((hb.cell hlb).trans c4)
      replace p4 := fun x : BW wr => x.cell ((hb.cell hlb).trans p4)
      have HC : Hid (∀ x : BW wr, Calls Try.prog f (#[L[j].val, L[j + 1].val] ++ fc) x.val fun e w'' => e = .returned (.int .i64 (c L[j] L[j + 1])) ∧ Below x.val.heap.size x.val w'') := fun x => HF.out x.val (hb.trans (x.2.mono hb.size)) _ (List.getElem_mem _) _ (List.getElem_mem _)
      have HB := Lib.hid hb
      clear hb
      cases h1 : decide (0 ≤ c L[j] L[j + 1])
      · have H1 : Hid (decide (c L[j] L[j + 1] < 0) = true) := by unfold Hid; simp only [decide_eq_false_iff_not, decide_eq_true_eq] at h1 ⊢; omega
        go_wp2
        refine wp_region_bw (by kernel_rfl) (by kernel_rfl) ?_
        repeat (go_big_quiet_step (exact bw_of _ (HC.out _)))
        refine wpQuiet_nil ?_
        intro wq hx
        have hq := bw_out hx
        clear hx c0 c1 c2 c3 c4 p0 p1 p2 p3 p4
        go_wp2
        go_roundw
        case rel => exact ⟨j + 1, by omega, by go_num, HE.out.trans (lk_succ hlt rfl H1.out), HB.out.trans (hq.mono HB.out.size)⟩
        case measure => simp [intOf]; omega
      · have H1 : Hid (decide (c L[j] L[j + 1] < 0) = false) := by unfold Hid; simp only [decide_eq_false_iff_not, decide_eq_true_eq] at h1 ⊢; omega
        go_wp2
        refine wp_region_bw (by kernel_rfl) (by kernel_rfl) ?_
        repeat (go_big_quiet_step (exact bw_of _ (HC.out _)))
        refine wpQuiet_nil ?_
        intro wq hx
        have hq := bw_out hx
        clear hx c0 c1 c2 c3 c4 p0 p1 p2 p3 p4
        go_wp2
        go_ret
        exact ⟨ret_b (by rw [HE.out, lk_prev hlt rfl H1.out]), HB.out.trans (hq.mono HB.out.size)⟩
    · have HN : Hid (risesB c L = true) := HE.out.trans (lk_end (by omega))
      go_wp2
      go_ret
      exact ⟨ret_b HN.out.symm, hb⟩
end Go.Proofs.Ytfbafdnjjfmhjaa
