/-
  IsManifest on both sides.
-/
import Derived.Test.YtfbafdnjjfmhjaaInterestFn
import Derived.Test.YtfbafdnjjfmhjaaInterestRise
import Derived.Test.YtfbafdnjjfmhjaaInts
import Derived.Test.YtfbafdnjjfmhjaaTotals
namespace Go.Proofs.Ytfbafdnjjfmhjaa
open Go.RowKit

def codeLt (a b : Interest) : Bool := decide (sCmp a.code b.code < 0)
def cntK (L : List Interest) : List Int := L.foldl (fun T x => addAt T x.kind.toNat 1) (List.replicate 4 0)
def fewB (T : List Int) : Bool := T.getD 0 0 == 1 && decide (T.getD 1 0 ≤ 1) && decide (T.getD 2 0 ≤ 1)
def manifestB (L : List Interest) : Bool := linked Interest.okB codeLt none L && decide (L.length ≤ 10) && fewB (cntK L)
theorem linked_split {α : Type} (ok : α → Bool) (rel : α → α → Bool) : ∀ (L : List α) (p : Option α), linked ok rel p L = (L.all ok && linked (fun _ => true) rel p L)
  | [], p => by simp [linked]
  | a :: L, p => by
    simp only [linked, List.all_cons, linked_split ok rel L, Bool.true_and]
    cases ok a <;> cases L.all ok <;> cases p <;> simp
theorem manifest_eq (L : List Interest) : manifestB L = (L.all Interest.okB && (fewB (cntK L) && (decide (L.length ≤ 10) && risesB (fun a b => sCmp a.code b.code) L))) := by
  have e : risesB (fun a b : Interest => sCmp a.code b.code) L = linked (fun _ => true) codeLt none L := rfl
  rw [e, manifestB, linked_split]
  cases L.all Interest.okB <;> cases linked (fun _ => true) codeLt none L <;> cases decide (L.length ≤ 10) <;> cases fewB (cntK L) <;> rfl
theorem manifest_len {L : List Interest} (h : manifestB L = true) : L.length ≤ 10 := by simp only [manifestB, Bool.and_eq_true, decide_eq_true_eq] at h; exact h.1.2
theorem manifest_ok {L : List Interest} (h : manifestB L = true) : ∀ x ∈ L, x.okB = true := by simp only [manifestB, Bool.and_eq_true] at h; exact linked_all h.1.1
theorem fold4_len (L : List Interest) : ∀ T : List Int, (L.foldl (fun T x => addAt T x.kind.toNat 1) T).length = T.length := by
  induction L with
  | nil => intro T; rfl
  | cons e L ih => intro T; rw [List.foldl_cons, ih, addAt_len]
theorem cntK_len (L : List Interest) : (cntK L).length = 4 := by rw [cntK, fold4_len]; simp
theorem cntK_step (L : List Interest) {k : Nat} (h : k < L.length) : cntK (L.take (k + 1)) = addAt (cntK (L.take k)) L[k].kind.toNat 1 := by
  rw [List.take_succ_eq_append_getElem h, cntK, List.foldl_append]; rfl
theorem cntK_bd (L : List Interest) : ∀ x ∈ cntK L, 0 ≤ x ∧ x ≤ L.length := by
  have key : ∀ (M : List Interest) (T : List Int) (b : Int), 0 ≤ b → (∀ x ∈ T, 0 ≤ x ∧ x ≤ b) → ∀ x ∈ M.foldl (fun T x => addAt T x.kind.toNat 1) T, 0 ≤ x ∧ x ≤ b + M.length := by
    intro M
    induction M with
    | nil => intro T b _ hT x hx; have := hT x hx; simp; omega
    | cons e M ih =>
      intro T b hb hT x hx
      have := ih (addAt T e.kind.toNat 1) (b + 1) (by omega) (addAt_bd hT (by omega) hb) x hx
      rw [List.length_cons]
      omega
  intro x hx
  have := key L (List.replicate 4 0) 0 (by omega) (by intro y hy; have := List.eq_of_mem_replicate hy; omega) x hx
  omega
theorem cnt_at {w : World} {base g : Nat} {e : TypeId} {T : List Int} {m : Nat} (v : Int) (hT : T.length = 4) (hm : m < 4) (h : w.ownsRow base e 1 (.slice (some ⟨g, 0, none⟩) 4 4) 4 (Ints.flat T)) :
    ∃ X, X ∈ T ∧ T.getD m 0 = X ∧ w.cell? ⟨g, m, none⟩ = some (.int .i64 X) ∧ addAt T m v = T.set m (X + v) := by
  have hm' : m < T.length := by omega
  refine ⟨T[m], List.getElem_mem _, getD_at hm', ?_, by rw [addAt, getD_at hm']⟩
  have h0 : w.ownsRow base e 1 (.slice (some ⟨g, 0, none⟩) T.length 4) T.length (Ints.flat T) := by rw [hT]; exact h
  obtain ⟨b', off', e, _, hc⟩ := (Ints.At.of_own h0).at_ m hm'
  injection e with e
  injection e with e1 e2
  rw [← e1, ← e2, Nat.zero_add] at hc
  exact hc
theorem cnt_row {w : World} {base g : Nat} {e : TypeId} {T : List Int} {m : Nat} {v : Int} (hT : T.length = 4) (hm : m < 4) (h : w.ownsRow base e 1 (.slice (some ⟨g, 0, none⟩) 4 4) 4 (Ints.flat T)) :
    (w.setCell ⟨g, m, none⟩ (.int .i64 v)).ownsRow base e 1 (.slice (some ⟨g, 0, none⟩) 4 4) 4 (Ints.flat (T.set m v)) ∧ w.grownBy (w.setCell ⟨g, m, none⟩ (.int .i64 v)) (some g) := by
  refine ⟨?_, grown_set _ _ _ _⟩
  have := (h.stored m (.int .i64 v)).1
  have e := flat_set Ints.cell 1 Ints.len v 0 (.int .i64 v) (by omega) T m (by omega) rfl
  rw [Nat.mul_one, Nat.add_zero] at e
  rw [Ints.flat, ← e]
  exact this

set_option maxHeartbeats 1000000 in
theorem compareInterests_any (x y : Interest) (w : World) :
    Calls Try.prog 108 #[x.val, y.val] w fun e w' => e = .returned (.int .i64 (sCmp x.code y.code)) ∧ Below w.heap.size w w' := by
  have B := Lib.hid (((Below.refl w.heap.size w).alloc (Nat.le_refl _) (.cells #[.string x.code, .int .i64 x.kind, .string x.owner, .int .i64 x.value, .int .i64 x.age] 110)).alloc (by simp) (.cells #[.string y.code, .int .i64 y.kind, .string y.owner, .int .i64 y.value, .int .i64 y.age] 110))
  go_enter Try.func108, Try.ntmps108
  go_wp2_with fail
  refine (compare_any _ _ _).mono ?_
  rintro e w' ⟨rfl, rfl⟩
  go_wp2
  go_ret
  exact ⟨rfl, B.out⟩

set_option maxHeartbeats 8000000 in
set_option maxRecDepth 100000 in
theorem isManifest_spec (A : Option Addr) (cap : Nat) (L : List Interest) (w : World) (hL : Interest.At w A L) (hs : ∀ s ∈ L, s.tiny) (hlen : L.length ≤ 1048576) :
    Calls Try.prog 99 #[.slice A L.length cap] w fun e w' => e = .returned (.bool (manifestB L)) ∧ Below w.heap.size w w' := by
  have HL := Lib.hid hL.at_
  have HS := Lib.hid hs
  clear hL hs
  have HO : Hid ((w.alloc (.cells #[.int .i64 0, .int .i64 0, .int .i64 0, .int .i64 0] 2)).ownsRow w.heap.size 2 1 (.slice (some ⟨w.heap.size, 0, none⟩) 4 4) 4 (Ints.flat (cntK (L.take 0)))) := own_lit _ _ 4 (Nat.le_refl _) rfl (by unfold maxLen; omega)
  go_enter Try.func99, Try.ntmps99
  go_wp2
  go_loopw [4] (fun i wr => ∃ k : Nat, k ≤ L.length ∧ i = .int .i64 k ∧ Hid (linked Interest.okB codeLt none L = linked Interest.okB codeLt (prevAt L k) (L.drop k)) ∧ Hid (wr.ownsRow w.heap.size 2 1 (.slice (some ⟨w.heap.size, 0, none⟩) 4 4) 4 (Ints.flat (cntK (L.take k)))) ∧ Below w.heap.size w wr) (fun i _ => L.length - (intOf i).toNat)
  case atStart => exact ⟨0, Nat.zero_le _, rfl, by simp [Hid, prevAt], HO, (Below.refl _ _).alloc (Nat.le_refl _) _⟩
  case round =>
    clear HO
    obtain ⟨k, hk, rfl, HE, HW, hb⟩ := hrel
    by_cases hlt : k < L.length
    · obtain ⟨b, off, rfl, hlb, c0, c1, c2, c3, c4⟩ := HL.out k hlt
      replace c0 := (hb.cell hlb).trans c0
      replace c1 := (hb.cell hlb).trans c1
      replace c2 := (hb.cell hlb).trans c2
      replace c3 := (hb.cell hlb).trans c3
      replace c4 := (hb.cell hlb).trans c4
      have hp := HS.out _ (List.getElem_mem hlt)
      have e0 : k = 0 ∨ ∃ j, k = j + 1 := by
        cases k with
        | zero => exact .inl rfl
        | succ j => exact .inr ⟨j, rfl⟩
      go_wp2
      cases h1 : L[k].okB
      · skip
        have f0 := fun x : BW wr => x.cell c0
        have f1 := fun x : BW wr => x.cell c1
        have f2 := fun x : BW wr => x.cell c2
        have f3 := fun x : BW wr => x.cell c3
        have f4 := fun x : BW wr => x.cell c4
        refine wp_region_bw (by kernel_rfl) (by kernel_rfl) ?_
        repeat (go_big_quiet_step ((go_at_call 124; exact bw_of _ (calls_b h1 (isInterest_spec _ hp _)))))
        refine wpQuiet_nil ?_
        intro wq hx
        have hq := bw_out hx
        clear hx
        go_wp2
        go_ret
        refine ⟨ret_b ?_, hb.trans (hq.mono hb.size)⟩
        rw [manifestB, HE.out, lk_false hlt h1]; rfl

      obtain ⟨m, hm⟩ : ∃ m : Nat, L[k].kind = m := ⟨L[k].kind.toNat, by have := (Interest.ok_bd h1).1.1; omega⟩
      have hm4 : m < 4 := by have := (Interest.ok_bd h1).1.2; omega
      have hmi : (m : Int) < 4 := by omega
      have HT : Hid (cntK (L.take (k + 1)) = addAt (cntK (L.take k)) m 1) := by unfold Hid; rw [cntK_step L hlt, hm]; rfl
      have hbd := cntK_bd (L.take k)
      have hTl := cntK_len (L.take k)
      rw [List.length_take, Nat.min_eq_left (Nat.le_of_lt hlt)] at hbd
      rw [hm] at c1
      have HMM := Lib.hid hm
      clear hm
      have f0 := fun x : BW wr => x.cell c0
      have f1 := fun x : BW wr => x.cell c1
      have f2 := fun x : BW wr => x.cell c2
      have f3 := fun x : BW wr => x.cell c3
      have f4 := fun x : BW wr => x.cell c4
      have hq' : L[k].val = .agg #[.string L[k].code, .int .i64 (m : Nat), .string L[k].owner, .int .i64 L[k].value, .int .i64 L[k].age] := by rw [← HMM.out]
      have HC1 : Hid (∀ W, Calls Try.prog 124 #[.agg #[.string L[k].code, .int .i64 (m : Nat), .string L[k].owner, .int .i64 L[k].value, .int .i64 L[k].age]] W fun e w' => e = .returned (.bool true) ∧ Below W.heap.size W w') := by
        unfold Hid; intro W; rw [← hq']; exact calls_b h1 (isInterest_spec _ hp W)
      clear hq'
      rcases e0 with rfl | ⟨j, rfl⟩
      · simp only [Nat.zero_mul, Nat.add_zero] at f0 f1 f2 f3 f4 c0 c1 c2 c3 c4
        refine wp_region_bw (by kernel_rfl) (by kernel_rfl) ?_
        repeat (go_big_quiet_step ((go_at_call 124; exact bw_of _ (HC1.out _))))
        refine wpQuiet_nil ?_
        intro wq hx
        have hq := bw_out hx
        clear hx
        have H5 := Lib.hid (own_below HW.out hq)
        have HBQ := Lib.hid (hb.trans (hq.mono hb.size))
        have c0 := below_cell hq c0
        have c1 := below_cell hq c1
        have c2 := below_cell hq c2
        have c3 := below_cell hq c3
        have c4 := below_cell hq c4
        clear hb hq f0 f1 f2 f3 f4
        obtain ⟨X, hX, _, hat, hS⟩ := cnt_at 1 hTl hm4 H5.out
        obtain ⟨hx1, hx2⟩ := hbd X hX
        have HS2 := Lib.hid hS
        have fz := H5.out.frozenAt
        clear hX hS
        go_wp2
        have HN := cnt_row (v := X + 1) hTl hm4 H5.out
        go_roundw
        case rel =>
          refine ⟨0 + 1, by omega, by go_num, HE.out.trans (lk_zero hlt h1), ?_, ?_⟩
          · have := HN.1
            rw [← HS2.out, ← HT.out] at this
            exact Lib.hid this
          · exact HBQ.out.grown HN.2 (by simpa using HBQ.out.size) (fun g' hg' => (H5.out.lt g' hg').1)
        case measure => simp [intOf]; omega

      · obtain ⟨b2, off2, he, _, p0, _⟩ := HL.out j (by omega)
        obtain ⟨rfl, rfl⟩ : b = b2 ∧ off = off2 := by injection he with he; injection he with he1 he2; exact ⟨he1, he2⟩
        clear he
        have p3 := fun x : BW wr => x.cell ((hb.cell hlb).trans p0)
        have hj0 : decide ((0 : Int) < ((j + 1 : Nat) : Int)) = true := by simp only [decide_eq_true_eq]; omega
        cases h6 : Op.bytesLess L[j].code.toList L[j + 1].code.toList
        · have H7 : Hid (codeLt L[j] L[j + 1] = false) := by unfold Hid codeLt; rw [sCmp_lt]; exact h6
          refine wp_region_bw (by kernel_rfl) (by kernel_rfl) ?_
          repeat (go_big_quiet_step ((go_at_call 124; exact bw_of _ (HC1.out _))))
          refine wpQuiet_nil ?_
          intro wq hx
          have hq := bw_out hx
          clear hx
          go_wp2
          go_ret
          refine ⟨ret_b ?_, hb.trans (hq.mono hb.size)⟩
          rw [manifestB, HE.out, lk_prev hlt h1 H7.out]; rfl

        · have H7 : Hid (codeLt L[j] L[j + 1] = true) := by unfold Hid codeLt; rw [sCmp_lt]; exact h6
          refine wp_region_bw (by kernel_rfl) (by kernel_rfl) ?_
          repeat (go_big_quiet_step ((go_at_call 124; exact bw_of _ (HC1.out _))))
          refine wpQuiet_nil ?_
          intro wq hx
          have hq := bw_out hx
          clear hx
          have H5 := Lib.hid (own_below HW.out hq)
          have HBQ := Lib.hid (hb.trans (hq.mono hb.size))
          have c0 := below_cell hq c0
          have c1 := below_cell hq c1
          have c2 := below_cell hq c2
          have c3 := below_cell hq c3
          have c4 := below_cell hq c4
          clear hb hq f0 f1 f2 f3 f4
          obtain ⟨X, hX, _, hat, hS⟩ := cnt_at 1 hTl hm4 H5.out
          obtain ⟨hx1, hx2⟩ := hbd X hX
          have HS2 := Lib.hid hS
          have fz := H5.out.frozenAt
          clear hX hS
          go_wp2
          have HN := cnt_row (v := X + 1) hTl hm4 H5.out
          go_roundw
          case rel =>
            refine ⟨j + 1 + 1, by omega, by go_num, HE.out.trans (lk_succ hlt h1 H7.out), ?_, ?_⟩
            · have := HN.1
              rw [← HS2.out, ← HT.out] at this
              exact Lib.hid this
            · exact HBQ.out.grown HN.2 (by simpa using HBQ.out.size) (fun g' hg' => (H5.out.lt g' hg').1)
          case measure => simp [intOf]; omega

    · obtain rfl : k = L.length := by omega
      have HN : Hid (linked Interest.okB codeLt none L = true) := HE.out.trans (lk_end (by omega))
      have h5 := HW.out
      rw [List.take_length] at h5
      obtain ⟨X0, hm0, hX0, x0, _⟩ := cnt_at (m := 0) 0 (cntK_len _) (by omega) h5
      obtain ⟨X1, hm1, hX1, x1, _⟩ := cnt_at (m := 1) 0 (cntK_len _) (by omega) h5
      obtain ⟨X2, hm2, hX2, x2, _⟩ := cnt_at (m := 2) 0 (cntK_len _) (by omega) h5
      have HXX : Hid (fewB (cntK L) = (X0 == 1 && decide (X1 ≤ 1) && decide (X2 ≤ 1))) := by unfold Hid fewB; rw [hX0, hX1, hX2]
      clear hm0 hm1 hm2 hX0 hX1 hX2
      clear h5
      have HB := Lib.hid hb
      clear hb
      by_cases g0 : L.length ≤ 10
      · skip
        have H0 : Hid (decide (L.length ≤ 10) = true) := decide_eq_true (by omega)
        cases g1 : (X0 == 1)
        · skip
          have H1 := Lib.hid g1
          go_wp2
          go_ret
          refine ⟨ret_b ?_, HB.out⟩
          rw [manifestB, HN.out, HXX.out]
          simp only [H0.out, H1.out]; simp
        · skip
          have H1 := Lib.hid g1
          cases g2 : decide (X1 ≤ 1)
          · skip
            have H2 := Lib.hid g2
            go_wp2
            go_ret
            refine ⟨ret_b ?_, HB.out⟩
            rw [manifestB, HN.out, HXX.out]
            simp only [H0.out, H1.out, H2.out]; simp
          · skip
            have H2 := Lib.hid g2
            cases g3 : decide (X2 ≤ 1)
            · skip
              have H3 := Lib.hid g3
              go_wp2
              go_ret
              refine ⟨ret_b ?_, HB.out⟩
              rw [manifestB, HN.out, HXX.out]
              simp only [H0.out, H1.out, H2.out, H3.out]; simp
            · skip
              have H3 := Lib.hid g3
              go_wp2
              go_ret
              refine ⟨ret_b ?_, HB.out⟩
              rw [manifestB, HN.out, HXX.out]
              simp only [H0.out, H1.out, H2.out, H3.out]; simp
      · skip
        have H0 : Hid (decide (L.length ≤ 10) = false) := decide_eq_false (by omega)
        go_wp2
        go_ret
        refine ⟨ret_b ?_, HB.out⟩
        rw [manifestB, HN.out, HXX.out]
        simp only [H0.out]; simp

set_option maxHeartbeats 8000000 in
set_option maxRecDepth 100000 in
theorem isManifest_impl (A : Option Addr) (cap : Nat) (L : List Interest) (w : World) (hL : Interest.At w A L) (hs : ∀ s ∈ L, s.tiny) (hlen : L.length ≤ 1048576) :
    Calls Try.prog 72 #[.slice A L.length cap] w fun e w' => e = .returned (.bool (manifestB L)) ∧ Below w.heap.size w w' := by
  have HL := Lib.hid hL.at_
  have HA := Lib.hid hL
  have HS := Lib.hid hs
  have HME := Lib.hid (manifest_eq L)
  clear hL hs
  have HO : Hid ((w.alloc (.cells #[.int .i64 0, .int .i64 0, .int .i64 0, .int .i64 0] 119)).ownsRow w.heap.size 119 1 (.slice (some ⟨w.heap.size, 0, none⟩) 4 4) 4 (Ints.flat (cntK (L.take 0)))) := own_lit _ _ 4 (Nat.le_refl _) rfl (by unfold maxLen; omega)
  go_enter Try.func72, Try.ntmps72
  go_wp2
  go_loopw [10] (fun i wr => ∃ k : Nat, k ≤ L.length ∧ i = .int .i64 k ∧ Hid (∀ x ∈ L.take k, x.okB = true) ∧ Hid (wr.ownsRow w.heap.size 119 1 (.slice (some ⟨w.heap.size, 0, none⟩) 4 4) 4 (Ints.flat (cntK (L.take k)))) ∧ Below w.heap.size w wr) (fun i _ => L.length - (intOf i).toNat)
  case atStart => exact ⟨0, Nat.zero_le _, rfl, by simp [Hid], HO, (Below.refl _ _).alloc (Nat.le_refl _) _⟩
  case round =>
    clear HO
    obtain ⟨k, hk, rfl, HP, HW, hb⟩ := hrel
    by_cases hlt : k < L.length
    · obtain ⟨b, off, rfl, hlb, c0, c1, c2, c3, c4⟩ := HL.out k hlt
      replace c0 := (hb.cell hlb).trans c0
      replace c1 := (hb.cell hlb).trans c1
      replace c2 := (hb.cell hlb).trans c2
      replace c3 := (hb.cell hlb).trans c3
      replace c4 := (hb.cell hlb).trans c4
      have hp := HS.out _ (List.getElem_mem hlt)
      cases h1 : L[k].okB
      · have B1 : Below wr.heap.size wr (wr.alloc (.cells #[.string L[k].code, .int .i64 L[k].kind, .string L[k].owner, .int .i64 L[k].value, .int .i64 L[k].age] 110)) := (Below.refl _ _).alloc (Nat.le_refl _) _
        go_wp2_with fail
        refine (calls_b h1 (isInterest_impl _ hp _)).mono ?_
        rintro e w2 ⟨rfl, hb2⟩
        replace hb := hb.trans ((B1.trans (hb2.mono B1.size)).mono hb.size)
        clear B1 hb2
        have HF : Hid (L.all Interest.okB = false) := by
          unfold Hid; rw [← Bool.not_eq_true, List.all_eq_true]; exact fun g => by simpa [h1] using g _ (List.getElem_mem hlt)
        go_wp2
        go_ret
        exact ⟨ret_b (by rw [HME.out, HF.out]; rfl), hb⟩
      obtain ⟨m, hm⟩ : ∃ m : Nat, L[k].kind = m := ⟨L[k].kind.toNat, by have := (Interest.ok_bd h1).1.1; omega⟩
      have hm4 : m < 4 := by have := (Interest.ok_bd h1).1.2; omega
      have hmi : (m : Int) < 4 := by omega
      have HT : Hid (cntK (L.take (k + 1)) = addAt (cntK (L.take k)) m 1) := by unfold Hid; rw [cntK_step L hlt, hm]; rfl
      have hbd := cntK_bd (L.take k)
      have hTl := cntK_len (L.take k)
      rw [List.length_take, Nat.min_eq_left (Nat.le_of_lt hlt)] at hbd
      rw [hm] at c1
      have HMM := Lib.hid hm
      clear hm
      have hq' : L[k].val = .agg #[.string L[k].code, .int .i64 (m : Nat), .string L[k].owner, .int .i64 L[k].value, .int .i64 L[k].age] := by rw [← HMM.out]
      have HC1 : Hid (∀ W, Calls Try.prog 113 #[.agg #[.string L[k].code, .int .i64 (m : Nat), .string L[k].owner, .int .i64 L[k].value, .int .i64 L[k].age]] W fun e w' => e = .returned (.bool true) ∧ Below W.heap.size W w') := by
        unfold Hid; intro W; rw [← hq']; exact calls_b h1 (isInterest_impl _ hp W)
      have B1 : Below wr.heap.size wr (wr.alloc (.cells #[.string L[k].code, .int .i64 (m : Nat), .string L[k].owner, .int .i64 L[k].value, .int .i64 L[k].age] 110)) := (Below.refl _ _).alloc (Nat.le_refl _) _
      have d0 := made_cell wr #[.string L[k].code, .int .i64 (m : Nat), .string L[k].owner, .int .i64 L[k].value, .int .i64 L[k].age] 110 0 (.string L[k].code) rfl
      have d1 := made_cell wr #[.string L[k].code, .int .i64 (m : Nat), .string L[k].owner, .int .i64 L[k].value, .int .i64 L[k].age] 110 1 (.int .i64 (m : Nat)) rfl
      have d2 := made_cell wr #[.string L[k].code, .int .i64 (m : Nat), .string L[k].owner, .int .i64 L[k].value, .int .i64 L[k].age] 110 2 (.string L[k].owner) rfl
      have d3 := made_cell wr #[.string L[k].code, .int .i64 (m : Nat), .string L[k].owner, .int .i64 L[k].value, .int .i64 L[k].age] 110 3 (.int .i64 L[k].value) rfl
      have d4 := made_cell wr #[.string L[k].code, .int .i64 (m : Nat), .string L[k].owner, .int .i64 L[k].value, .int .i64 L[k].age] 110 4 (.int .i64 L[k].age) rfl
      clear hq'
      go_wp2_with fail
      refine (HC1.out _).mono ?_
      rintro e w2 ⟨rfl, hb2⟩
      replace d1 := below_cell hb2 d1
      have B2 := B1.trans (hb2.mono B1.size)
      have H5 := Lib.hid (own_below HW.out B2)
      have HBQ := Lib.hid (hb.trans (B2.mono hb.size))
      clear B1 B2 hb2 hb HC1 d0 d2 d3 d4 c0 c1 c2 c3 c4
      obtain ⟨X, hX, _, hat, hS⟩ := cnt_at 1 hTl hm4 H5.out
      obtain ⟨hx1, hx2⟩ := hbd X hX
      have HS2 := Lib.hid hS
      have fz := H5.out.frozenAt
      clear hX hS
      go_wp2
      have HN := cnt_row (v := X + 1) hTl hm4 H5.out
      go_roundw
      case rel =>
        refine ⟨k + 1, by omega, by go_num, ?_, ?_, ?_⟩
        · intro x hx
          rw [List.take_succ_eq_append_getElem hlt, List.mem_append, List.mem_singleton] at hx
          rcases hx with hx | rfl
          · exact HP.out x hx
          · exact h1
        · have := HN.1
          rw [← HS2.out, ← HT.out] at this
          exact Lib.hid this
        · exact HBQ.out.grown HN.2 (by simpa using HBQ.out.size) (fun g' hg' => (H5.out.lt g' hg').1)
      case measure => simp [intOf]; omega
    · obtain rfl : k = L.length := by omega
      have HALL : Hid (L.all Interest.okB = true) := List.all_eq_true.2 fun x hx => HP.out x (by rw [List.take_length]; exact hx)
      have h5 := HW.out
      rw [List.take_length] at h5
      obtain ⟨X0, hm0, hX0, x0, _⟩ := cnt_at (m := 0) 0 (cntK_len _) (by omega) h5
      obtain ⟨X1, hm1, hX1, x1, _⟩ := cnt_at (m := 1) 0 (cntK_len _) (by omega) h5
      obtain ⟨X2, hm2, hX2, x2, _⟩ := cnt_at (m := 2) 0 (cntK_len _) (by omega) h5
      have HXX : Hid (fewB (cntK L) = (X0 == 1 && decide (X1 ≤ 1) && decide (X2 ≤ 1))) := by unfold Hid fewB; rw [hX0, hX1, hX2]
      clear hm0 hm1 hm2 hX0 hX1 hX2
      clear h5
      have HB := Lib.hid hb
      clear hb
      cases g0 : (X0 == 1)
      · skip
        have H0 := Lib.hid g0
        go_wp2
        go_ret
        refine ⟨ret_b ?_, HB.out⟩
        rw [HME.out, HALL.out, HXX.out]
        simp only [H0.out]; simp
      · skip
        have H0 := Lib.hid g0
        cases g1 : decide (X1 ≤ 1)
        · skip
          have H1 := Lib.hid g1
          go_wp2
          go_ret
          refine ⟨ret_b ?_, HB.out⟩
          rw [HME.out, HALL.out, HXX.out]
          simp only [H0.out, H1.out]; simp
        · skip
          have H1 := Lib.hid g1
          cases g2 : decide (X2 ≤ 1)
          · skip
            have H2 := Lib.hid g2
            go_wp2
            go_ret
            refine ⟨ret_b ?_, HB.out⟩
            rw [HME.out, HALL.out, HXX.out]
            simp only [H0.out, H1.out, H2.out]; simp
          · skip
            have H2 := Lib.hid g2
            by_cases g3 : L.length ≤ 10
            · skip
              have H3 : Hid (decide (L.length ≤ 10) = true) := decide_eq_true (by omega)
              go_wp2_with fail
              refine (risingInterest 108 #[] A cap L (fun a b => sCmp a.code b.code) _ (HA.out.below HB.out) ⟨run_callFunc_enter Try.func108 (by kernel_rfl) (by kernel_rfl), fun w' hw x hx y hy => compareInterests_any x y w'⟩ (by omega)).mono ?_
              rintro e w2 ⟨rfl, hb2⟩
              replace HB := Lib.hid (HB.out.trans (hb2.mono HB.out.size))
              clear hb2
              go_wp2
              go_ret
              refine ⟨ret_b ?_, HB.out⟩
              rw [HME.out, HALL.out, HXX.out]
              simp only [H0.out, H1.out, H2.out, H3.out]; simp
            · skip
              have H3 : Hid (decide (L.length ≤ 10) = false) := decide_eq_false (by omega)
              go_wp2
              go_ret
              refine ⟨ret_b ?_, HB.out⟩
              rw [HME.out, HALL.out, HXX.out]
              simp only [H0.out, H1.out, H2.out, H3.out]; simp
end Go.Proofs.Ytfbafdnjjfmhjaa
