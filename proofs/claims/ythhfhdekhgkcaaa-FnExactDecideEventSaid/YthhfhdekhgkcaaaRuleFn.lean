/-
  The search for a clause, and IsRulebook, on both sides.
-/
import Derived.Test.YthhfhdekhgkcaaaRule
import Derived.Test.YthhfhdekhgkcaaaClauseFun
namespace Go.Proofs.Ythhfhdekhgkcaaa
open Go.RowKit

set_option maxHeartbeats 1000000 in
set_option maxRecDepth 100000 in
theorem find_spec (A : Option Addr) (cap : Nat) (L : List Clause) (s : ByteArray) (w : World) (hL : Clause.At w A L) (hlen : L.length ≤ 9223372036854775807) :
    Calls Try.prog 72 #[.slice A L.length cap, .string s] w fun e w' => e = .returned (.int .i64 (findC L s)) ∧ w = w' := by
  have HL := Lib.hid hL.at_
  clear hL
  go_enter Try.func72, Try.ntmps72
  go_wp2
  go_loopw [5] (fun i wr => ∃ k : Nat, k ≤ L.length ∧ i = .int .i64 k ∧ Hid (∀ x ∈ L.take k, hasCode s x = false) ∧ wr = w) (fun i _ => L.length - (intOf i).toNat)
  case atStart => exact ⟨0, Nat.zero_le _, rfl, (by simp [Hid]), rfl⟩
  case round =>
    obtain ⟨k, hk, rfl, HP, rfl⟩ := hrel
    by_cases hlt : k < L.length
    · obtain ⟨b, off, rfl, hlb, c0, _⟩ := HL.out k hlt
      cases hp : (L[k].code.toList == s.toList)
      · have HQ : Hid (hasCode s L[k] = false) := hp
        go_wp2
        go_roundw
        case rel => exact ⟨k + 1, by omega, by go_num, take_step (hasCode s) L hlt HP.out HQ.out, trivial⟩
        case measure => simp [intOf]; omega
      · have HQ : Hid (hasCode s L[k] = true) := hp
        go_wp2
        go_ret
        exact ⟨ret_i (idx_hit (hasCode s) L hlt HP.out HQ.out).symm, rfl⟩
    · go_wp2
      go_ret
      refine ⟨ret_i (idx_none (hasCode s) L ?_).symm, rfl⟩
      have := HP.out
      rwa [List.take_of_length_le (by omega)] at this

set_option maxHeartbeats 400000 in
theorem findClosure (c : Clause) (a : Addr) (s : ByteArray) (w : World) (hc : w.cell? a = some (.string s)) :
    Calls Try.prog 107 #[c.val, .pointer (some a)] w fun e' w' => e' = .returned (.bool (hasCode s c)) ∧ Below w.heap.size w w' := by
  have B1 : Below w.heap.size w (w.alloc (.cells #[.string c.code, .int .i64 c.kind, .int .i64 c.peril, .int .i64 c.voluntary, .int .i64 c.reasonable, .int .i64 c.result, .string c.to] 26)) := (Below.refl _ _).alloc (Nat.le_refl _) _
  have hc1 := below_cell B1 hc
  have HB := Lib.hid B1
  clear hc B1
  go_enter Try.func107, Try.ntmps107
  go_wp2
  go_ret
  exact ⟨rfl, HB.out⟩

set_option maxHeartbeats 400000 in
theorem FindClosure (c : Clause) (a : Addr) (s : ByteArray) (w : World) (hc : w.cell? a = some (.string s)) :
    Calls Try.prog 77 #[c.val, .pointer (some a)] w fun e' w' => e' = .returned (.bool (hasCode s c)) ∧ Below w.heap.size w w' := by
  have B1 : Below w.heap.size w (w.alloc (.cells #[.string c.code, .int .i64 c.kind, .int .i64 c.peril, .int .i64 c.voluntary, .int .i64 c.reasonable, .int .i64 c.result, .string c.to] 26)) := (Below.refl _ _).alloc (Nat.le_refl _) _
  have hc1 := below_cell B1 hc
  have HB := Lib.hid B1
  clear hc B1
  go_enter Try.func77, Try.ntmps77
  go_wp2
  go_ret
  exact ⟨rfl, HB.out⟩

set_option maxHeartbeats 1000000 in
set_option maxRecDepth 100000 in
theorem find_impl (A : Option Addr) (cap : Nat) (L : List Clause) (s : ByteArray) (w : World) (hL : Clause.At w A L) (hlen : L.length ≤ 9223372036854775807) :
    Calls Try.prog 74 #[.slice A L.length cap, .string s] w fun e w' => e = .returned (.int .i64 (findC L s)) ∧ Below w.heap.size w w' := by
  have B1 : Below w.heap.size w (w.alloc (.cells #[.string s] 9)) := (Below.refl _ _).alloc (Nat.le_refl _) _
  have HD := Lib.hid (made_cell w #[.string s] 9 0 (.string s) rfl)
  have HB := Lib.hid B1
  have HA := Lib.hid (hL.below B1)
  clear B1 hL
  go_enter Try.func74, Try.ntmps74
  go_wp2_with fail
  refine (indexClause 107 #[.pointer (some ⟨w.heap.size, 0, none⟩)] A cap L (hasCode s) _ HA.out ⟨run_callFunc_enter Try.func107 (by kernel_rfl) (by kernel_rfl), fun w' hw x _ => findClosure x _ s w' (below_cell hw HD.out)⟩ hlen).mono ?_
  rintro e w1 ⟨rfl, hb⟩
  have HB2 := Lib.hid (HB.out.trans (hb.mono HB.out.size))
  clear hb
  go_wp2
  go_ret
  exact ⟨rfl, HB2.out⟩

theorem last_sum {c : Clause} (h : (-1 ≤ c.kind ∧ c.kind ≤ 6) ∧ (0 ≤ c.peril ∧ c.peril ≤ 2) ∧ (0 ≤ c.voluntary ∧ c.voluntary ≤ 2) ∧ (0 ≤ c.reasonable ∧ c.reasonable ≤ 2) ∧ (0 ≤ c.result ∧ c.result ≤ 3)) :
    isLast c = (c.kind == -1 && (c.peril + c.voluntary + c.reasonable == 0) && !(c.result == 3)) := by
  have : (c.peril + c.voluntary + c.reasonable == 0) = (c.peril == 0 && c.voluntary == 0 && c.reasonable == 0) := by
    rw [Bool.eq_iff_iff]; simp only [beq_iff_eq, Bool.and_eq_true]; omega
  rw [isLast, this]; simp only [Bool.and_assoc]
theorem take_all {L : List Clause} {k : Nat} (hk : k < L.length) (h : ∀ x ∈ L.take k, x.okB = true) (hp : L[k].okB = true) : ∀ x ∈ L.take (k + 1), x.okB = true := by
  intro x hx
  rw [List.take_succ_eq_append_getElem hk, List.mem_append, List.mem_singleton] at hx
  rcases hx with hx | rfl
  · exact h x hx
  · exact hp
theorem good_step {L : List Clause} {k : Nat} (h : ∀ i < k, goodAt L i = true) (hp : goodAt L k = true) : ∀ i < k + 1, goodAt L i = true := by
  intro i hi
  rcases Nat.lt_succ_iff_lt_or_eq.1 hi with h1 | rfl
  · exact h i h1
  · exact hp

set_option maxHeartbeats 4000000 in
set_option maxRecDepth 100000 in
theorem isRulebook_spec (A : Option Addr) (cap : Nat) (L : List Clause) (w : World) (hL : Clause.At w A L) (hs : ∀ s ∈ L, s.tiny) (hlen : L.length ≤ 9223372036854775807) :
    Calls Try.prog 26 #[.slice A L.length cap] w fun e w' => e = .returned (.bool (isRulebook L)) ∧ Below w.heap.size w w' := by
  have HL := Lib.hid hL.at_
  have HA := Lib.hid hL
  have HS := Lib.hid hs
  clear hL hs
  cases h0 : inB L.length 1 12
  · go_enter Try.func26, Try.ntmps26
    go_wp2_with fail
    refine (calls_b h0 (l01In_any _ _ _ _)).mono ?_
    rintro e w1 ⟨rfl, rfl⟩
    go_wp2
    go_ret
    exact ⟨ret_b (rb_len h0).symm, Below.refl _ _⟩
  have H0 := Lib.hid h0
  have hbd := inB_iff.1 h0
  have hp : 1 ≤ L.length := by omega
  have hp2 : L.length ≤ 12 := by omega
  clear hbd
  go_enter Try.func26, Try.ntmps26
  go_wp2_with fail
  refine (calls_b h0 (l01In_any _ _ _ _)).mono ?_
  rintro e w1 ⟨rfl, rfl⟩
  clear h0
  go_wp2
  go_loopw [3] (fun i wr => ∃ k : Nat, k ≤ L.length ∧ i = .int .i64 k ∧ Hid (∀ x ∈ L.take k, x.okB = true) ∧ Hid (∀ i < k, goodAt L i = true) ∧ Below w.heap.size w wr) (fun i _ => L.length - (intOf i).toNat)
  case atStart => exact ⟨0, Nat.zero_le _, rfl, (by simp [Hid]), (by simp [Hid]), Below.refl _ _⟩
  case round =>
    obtain ⟨k, hk, rfl, HP, HG, hb⟩ := hrel
    by_cases hlt : k < L.length
    · obtain ⟨b, off, rfl, hlb, c0, c1, c2, c3, c4, c5, c6⟩ := HL.out k hlt
      replace c0 := (hb.cell hlb).trans c0
      replace c1 := (hb.cell hlb).trans c1
      replace c2 := (hb.cell hlb).trans c2
      replace c3 := (hb.cell hlb).trans c3
      replace c4 := (hb.cell hlb).trans c4
      replace c5 := (hb.cell hlb).trans c5
      replace c6 := (hb.cell hlb).trans c6
      have B1 : Below wr.heap.size wr (wr.alloc (.cells #[.string L[k].code, .int .i64 L[k].kind, .int .i64 L[k].peril, .int .i64 L[k].voluntary, .int .i64 L[k].reasonable, .int .i64 L[k].result, .string L[k].to] 26)) := (Below.refl _ _).alloc (Nat.le_refl _) _
      have d0 := made_cell wr #[.string L[k].code, .int .i64 L[k].kind, .int .i64 L[k].peril, .int .i64 L[k].voluntary, .int .i64 L[k].reasonable, .int .i64 L[k].result, .string L[k].to] 26 0 (.string L[k].code) rfl
      have d1 := made_cell wr #[.string L[k].code, .int .i64 L[k].kind, .int .i64 L[k].peril, .int .i64 L[k].voluntary, .int .i64 L[k].reasonable, .int .i64 L[k].result, .string L[k].to] 26 1 (.int .i64 L[k].kind) rfl
      have d2 := made_cell wr #[.string L[k].code, .int .i64 L[k].kind, .int .i64 L[k].peril, .int .i64 L[k].voluntary, .int .i64 L[k].reasonable, .int .i64 L[k].result, .string L[k].to] 26 2 (.int .i64 L[k].peril) rfl
      have d3 := made_cell wr #[.string L[k].code, .int .i64 L[k].kind, .int .i64 L[k].peril, .int .i64 L[k].voluntary, .int .i64 L[k].reasonable, .int .i64 L[k].result, .string L[k].to] 26 3 (.int .i64 L[k].voluntary) rfl
      have d4 := made_cell wr #[.string L[k].code, .int .i64 L[k].kind, .int .i64 L[k].peril, .int .i64 L[k].voluntary, .int .i64 L[k].reasonable, .int .i64 L[k].result, .string L[k].to] 26 4 (.int .i64 L[k].reasonable) rfl
      have d5 := made_cell wr #[.string L[k].code, .int .i64 L[k].kind, .int .i64 L[k].peril, .int .i64 L[k].voluntary, .int .i64 L[k].reasonable, .int .i64 L[k].result, .string L[k].to] 26 5 (.int .i64 L[k].result) rfl
      have d6 := made_cell wr #[.string L[k].code, .int .i64 L[k].kind, .int .i64 L[k].peril, .int .i64 L[k].voluntary, .int .i64 L[k].reasonable, .int .i64 L[k].result, .string L[k].to] 26 6 (.string L[k].to) rfl
      have ht := HS.out _ (List.getElem_mem hlt)
      cases h1 : L[k].okB
      · go_wp2_with fail
        refine (calls_b h1 (isClause_spec _ ht _)).mono ?_
        rintro e w2 ⟨rfl, hb2⟩
        replace d0 := below_cell hb2 d0
        replace d1 := below_cell hb2 d1
        replace d2 := below_cell hb2 d2
        replace d3 := below_cell hb2 d3
        replace d4 := below_cell hb2 d4
        replace d5 := below_cell hb2 d5
        replace d6 := below_cell hb2 d6
        replace B1 := B1.trans (hb2.mono B1.size)
        clear hb2
        go_wp2
        go_ret
        exact ⟨ret_b (rb_ok hlt h1).symm, hb.trans (B1.mono hb.size)⟩
      cases h2 : (findC L L[k].code == (k : Int))
      · have n2 : (findC L L[k].code != (k : Int)) = true := by rw [bne, h2]; rfl
        have HGF : Hid (goodAt L k = false) := by unfold Hid; rw [good_at hlt, h2]; rfl
        go_wp2_with fail
        refine (calls_b h1 (isClause_spec _ ht _)).mono ?_
        rintro e w2 ⟨rfl, hb2⟩
        replace d0 := below_cell hb2 d0
        replace d1 := below_cell hb2 d1
        replace d2 := below_cell hb2 d2
        replace d3 := below_cell hb2 d3
        replace d4 := below_cell hb2 d4
        replace d5 := below_cell hb2 d5
        replace d6 := below_cell hb2 d6
        replace B1 := B1.trans (hb2.mono B1.size)
        clear hb2
        go_wp2_with fail
        refine (find_spec _ cap L _ _ (HA.out.below (hb.trans (B1.mono hb.size))) hlen).mono ?_
        rintro e w3 ⟨rfl, rfl⟩
        go_wp2
        go_ret
        exact ⟨ret_b (rb_good hlt HGF.out).symm, hb.trans (B1.mono hb.size)⟩
      have n2 : (findC L L[k].code != (k : Int)) = false := by rw [bne, h2]; rfl
      cases h3 : (L[k].result == 3)
      · have HGT : Hid (goodAt L k = true) := by unfold Hid; rw [good_at hlt, h2, h3]; rfl
        go_wp2_with fail
        refine (calls_b h1 (isClause_spec _ ht _)).mono ?_
        rintro e w2 ⟨rfl, hb2⟩
        replace d0 := below_cell hb2 d0
        replace d1 := below_cell hb2 d1
        replace d2 := below_cell hb2 d2
        replace d3 := below_cell hb2 d3
        replace d4 := below_cell hb2 d4
        replace d5 := below_cell hb2 d5
        replace d6 := below_cell hb2 d6
        replace B1 := B1.trans (hb2.mono B1.size)
        clear hb2
        go_wp2_with fail
        refine (find_spec _ cap L _ _ (HA.out.below (hb.trans (B1.mono hb.size))) hlen).mono ?_
        rintro e w3 ⟨rfl, rfl⟩
        go_wp2
        go_roundw
        case rel => exact ⟨k + 1, by omega, by go_num, take_all hlt HP.out h1, good_step HG.out HGT.out, hb.trans (B1.mono hb.size)⟩
        case measure => simp [intOf]; omega
      cases h4 : decide (findC L L[k].to ≤ (k : Int))
      · have HGT : Hid (goodAt L k = true) := by
          unfold Hid; rw [good_at hlt, h2, h3]; simp only [decide_eq_false_iff_not] at h4; simp; omega
        go_wp2_with fail
        refine (calls_b h1 (isClause_spec _ ht _)).mono ?_
        rintro e w2 ⟨rfl, hb2⟩
        replace d0 := below_cell hb2 d0
        replace d1 := below_cell hb2 d1
        replace d2 := below_cell hb2 d2
        replace d3 := below_cell hb2 d3
        replace d4 := below_cell hb2 d4
        replace d5 := below_cell hb2 d5
        replace d6 := below_cell hb2 d6
        replace B1 := B1.trans (hb2.mono B1.size)
        clear hb2
        go_wp2_with fail
        refine (find_spec _ cap L _ _ (HA.out.below (hb.trans (B1.mono hb.size))) hlen).mono ?_
        rintro e w3 ⟨rfl, rfl⟩
        go_wp2_with fail
        refine (find_spec _ cap L _ _ (HA.out.below (hb.trans (B1.mono hb.size))) hlen).mono ?_
        rintro e w4 ⟨rfl, rfl⟩
        go_wp2
        go_roundw
        case rel => exact ⟨k + 1, by omega, by go_num, take_all hlt HP.out h1, good_step HG.out HGT.out, hb.trans (B1.mono hb.size)⟩
        case measure => simp [intOf]; omega
      · have HGF : Hid (goodAt L k = false) := by
          unfold Hid; rw [good_at hlt, h2, h3]; simp only [decide_eq_true_eq] at h4; simp; omega
        go_wp2_with fail
        refine (calls_b h1 (isClause_spec _ ht _)).mono ?_
        rintro e w2 ⟨rfl, hb2⟩
        replace d0 := below_cell hb2 d0
        replace d1 := below_cell hb2 d1
        replace d2 := below_cell hb2 d2
        replace d3 := below_cell hb2 d3
        replace d4 := below_cell hb2 d4
        replace d5 := below_cell hb2 d5
        replace d6 := below_cell hb2 d6
        replace B1 := B1.trans (hb2.mono B1.size)
        clear hb2
        go_wp2_with fail
        refine (find_spec _ cap L _ _ (HA.out.below (hb.trans (B1.mono hb.size))) hlen).mono ?_
        rintro e w3 ⟨rfl, rfl⟩
        go_wp2_with fail
        refine (find_spec _ cap L _ _ (HA.out.below (hb.trans (B1.mono hb.size))) hlen).mono ?_
        rintro e w4 ⟨rfl, rfl⟩
        go_wp2
        go_ret
        exact ⟨ret_b (rb_good hlt HGF.out).symm, hb.trans (B1.mono hb.size)⟩
    · obtain ⟨m, hm⟩ : ∃ m, L.length = m + 1 := ⟨L.length - 1, by omega⟩
      have hml : m < L.length := by omega
      obtain ⟨b, off, rfl, hlb, c0, c1, c2, c3, c4, c5, c6⟩ := HL.out m hml
      replace c0 := (hb.cell hlb).trans c0
      replace c1 := (hb.cell hlb).trans c1
      replace c2 := (hb.cell hlb).trans c2
      replace c3 := (hb.cell hlb).trans c3
      replace c4 := (hb.cell hlb).trans c4
      replace c5 := (hb.cell hlb).trans c5
      replace c6 := (hb.cell hlb).trans c6
      have hek : L.length ≤ k := by omega
      have HE : Hid (isRulebook L = lastOk L) := rb_end H0.out (List.all_eq_true.2 fun x hx => HP.out x (by rwa [List.take_of_length_le hek])) (fun i hi => HG.out i (by omega))
      have HLA : Hid (lastOk L = isLast L[m]) := (last_at (by omega)).trans (by congr 1; simp only [hm, Nat.add_sub_cancel])
      have B1 : Below wr.heap.size wr (wr.alloc (.cells #[.string L[m].code, .int .i64 L[m].kind, .int .i64 L[m].peril, .int .i64 L[m].voluntary, .int .i64 L[m].reasonable, .int .i64 L[m].result, .string L[m].to] 26)) := (Below.refl _ _).alloc (Nat.le_refl _) _
      have d0 := made_cell wr #[.string L[m].code, .int .i64 L[m].kind, .int .i64 L[m].peril, .int .i64 L[m].voluntary, .int .i64 L[m].reasonable, .int .i64 L[m].result, .string L[m].to] 26 0 (.string L[m].code) rfl
      have d1 := made_cell wr #[.string L[m].code, .int .i64 L[m].kind, .int .i64 L[m].peril, .int .i64 L[m].voluntary, .int .i64 L[m].reasonable, .int .i64 L[m].result, .string L[m].to] 26 1 (.int .i64 L[m].kind) rfl
      have d2 := made_cell wr #[.string L[m].code, .int .i64 L[m].kind, .int .i64 L[m].peril, .int .i64 L[m].voluntary, .int .i64 L[m].reasonable, .int .i64 L[m].result, .string L[m].to] 26 2 (.int .i64 L[m].peril) rfl
      have d3 := made_cell wr #[.string L[m].code, .int .i64 L[m].kind, .int .i64 L[m].peril, .int .i64 L[m].voluntary, .int .i64 L[m].reasonable, .int .i64 L[m].result, .string L[m].to] 26 3 (.int .i64 L[m].voluntary) rfl
      have d4 := made_cell wr #[.string L[m].code, .int .i64 L[m].kind, .int .i64 L[m].peril, .int .i64 L[m].voluntary, .int .i64 L[m].reasonable, .int .i64 L[m].result, .string L[m].to] 26 4 (.int .i64 L[m].reasonable) rfl
      have d5 := made_cell wr #[.string L[m].code, .int .i64 L[m].kind, .int .i64 L[m].peril, .int .i64 L[m].voluntary, .int .i64 L[m].reasonable, .int .i64 L[m].result, .string L[m].to] 26 5 (.int .i64 L[m].result) rfl
      have d6 := made_cell wr #[.string L[m].code, .int .i64 L[m].kind, .int .i64 L[m].peril, .int .i64 L[m].voluntary, .int .i64 L[m].reasonable, .int .i64 L[m].result, .string L[m].to] 26 6 (.string L[m].to) rfl
      have HB1 := Lib.hid B1
      have HMM := Lib.hid hm
      clear B1
      rw [hm]
      clear hek
      cases g0 : (L[m].kind == -1)
      · have H0 := Lib.hid g0
        go_wp2
        go_ret
        refine ⟨ret_b ?_, hb.trans (HB1.out.mono hb.size)⟩
        rw [HE.out, HLA.out]
        simp [isLast, H0.out]
      · have H0 := Lib.hid g0
        cases g1 : (L[m].peril == 0)
        · have H1 := Lib.hid g1
          go_wp2
          go_ret
          refine ⟨ret_b ?_, hb.trans (HB1.out.mono hb.size)⟩
          rw [HE.out, HLA.out]
          simp [isLast, H0.out, H1.out]
        · have H1 := Lib.hid g1
          cases g2 : (L[m].voluntary == 0)
          · have H2 := Lib.hid g2
            go_wp2
            go_ret
            refine ⟨ret_b ?_, hb.trans (HB1.out.mono hb.size)⟩
            rw [HE.out, HLA.out]
            simp [isLast, H0.out, H1.out, H2.out]
          · have H2 := Lib.hid g2
            cases g3 : (L[m].reasonable == 0)
            · have H3 := Lib.hid g3
              go_wp2
              go_ret
              refine ⟨ret_b ?_, hb.trans (HB1.out.mono hb.size)⟩
              rw [HE.out, HLA.out]
              simp [isLast, H0.out, H1.out, H2.out, H3.out]
            · have H3 := Lib.hid g3
              cases g4 : (L[m].result == 3)
              · have H4 := Lib.hid g4
                have n4 : (L[m].result != 3) = true := by rw [bne, g4]; rfl
                go_wp2
                go_ret
                refine ⟨ret_b ?_, hb.trans (HB1.out.mono hb.size)⟩
                rw [HE.out, HLA.out]
                simp [isLast, H0.out, H1.out, H2.out, H3.out, H4.out]
              · have H4 := Lib.hid g4
                have n4 : (L[m].result != 3) = false := by rw [bne, g4]; rfl
                go_wp2
                go_ret
                refine ⟨ret_b ?_, hb.trans (HB1.out.mono hb.size)⟩
                rw [HE.out, HLA.out]
                simp [isLast, H0.out, H1.out, H2.out, H3.out, H4.out]


set_option maxHeartbeats 4000000 in
set_option maxRecDepth 100000 in
theorem isRulebook_impl (A : Option Addr) (cap : Nat) (L : List Clause) (w : World) (hL : Clause.At w A L) (hs : ∀ s ∈ L, s.tiny) (hlen : L.length ≤ 9223372036854775807) :
    Calls Try.prog 28 #[.slice A L.length cap] w fun e w' => e = .returned (.bool (isRulebook L)) ∧ Below w.heap.size w w' := by
  have HL := Lib.hid hL.at_
  have HA := Lib.hid hL
  have HS := Lib.hid hs
  clear hL hs
  by_cases hq1 : L.length < 1
  · go_enter Try.func28, Try.ntmps28
    go_wp2
    go_ret
    exact ⟨ret_b (rb_len (inB_f (by omega))).symm, Below.refl _ _⟩
  by_cases hq2 : 12 < L.length
  · go_enter Try.func28, Try.ntmps28
    go_wp2
    go_ret
    exact ⟨ret_b (rb_len (by rw [inB_t (by omega)]; simp; omega)).symm, Below.refl _ _⟩
  have hp : 1 ≤ L.length := by omega
  have hp2 : L.length ≤ 12 := by omega
  have H0 : Hid (inB L.length 1 12 = true) := by unfold Hid; rw [inB_iff]; omega
  clear hq1 hq2
  cases hall : L.all Clause.okB
  · go_enter Try.func28, Try.ntmps28
    go_wp2_with fail
    refine (calls_b hall (allClause 18 #[] A cap L Clause.okB _ HA.out ⟨run_callFunc_enter Try.func18 (by kernel_rfl) (by kernel_rfl), fun w' hw x hx => isClause_impl x (HS.out x hx) w'⟩ hlen)).mono ?_
    rintro e w1 ⟨rfl, hb⟩
    go_wp2
    go_ret
    exact ⟨ret_b (rb_all hall).symm, hb⟩
  have HALL := Lib.hid hall
  go_enter Try.func28, Try.ntmps28
  go_wp2_with fail
  refine (calls_b hall (allClause 18 #[] A cap L Clause.okB _ HA.out ⟨run_callFunc_enter Try.func18 (by kernel_rfl) (by kernel_rfl), fun w' hw x hx => isClause_impl x (HS.out x hx) w'⟩ hlen)).mono ?_
  rintro e w1 ⟨rfl, hbx⟩
  clear hall
  go_wp2
  go_loopw [21] (fun i wr => ∃ k : Nat, k ≤ L.length ∧ i = .int .i64 k ∧ Hid (∀ i < k, goodAt L i = true) ∧ Below w.heap.size w wr) (fun i _ => L.length - (intOf i).toNat)
  case atStart => exact ⟨0, Nat.zero_le _, rfl, (by simp [Hid]), hbx⟩
  case round =>
    clear hbx
    obtain ⟨k, hk, rfl, HG, hb⟩ := hrel
    by_cases hlt : k < L.length
    · obtain ⟨b, off, rfl, hlb, c0, c1, c2, c3, c4, c5, c6⟩ := HL.out k hlt
      replace c0 := (hb.cell hlb).trans c0
      replace c1 := (hb.cell hlb).trans c1
      replace c2 := (hb.cell hlb).trans c2
      replace c3 := (hb.cell hlb).trans c3
      replace c4 := (hb.cell hlb).trans c4
      replace c5 := (hb.cell hlb).trans c5
      replace c6 := (hb.cell hlb).trans c6
      have B1 : Below wr.heap.size wr (wr.alloc (.cells #[.string L[k].code, .int .i64 L[k].kind, .int .i64 L[k].peril, .int .i64 L[k].voluntary, .int .i64 L[k].reasonable, .int .i64 L[k].result, .string L[k].to] 26)) := (Below.refl _ _).alloc (Nat.le_refl _) _
      have d0 := made_cell wr #[.string L[k].code, .int .i64 L[k].kind, .int .i64 L[k].peril, .int .i64 L[k].voluntary, .int .i64 L[k].reasonable, .int .i64 L[k].result, .string L[k].to] 26 0 (.string L[k].code) rfl
      have d1 := made_cell wr #[.string L[k].code, .int .i64 L[k].kind, .int .i64 L[k].peril, .int .i64 L[k].voluntary, .int .i64 L[k].reasonable, .int .i64 L[k].result, .string L[k].to] 26 1 (.int .i64 L[k].kind) rfl
      have d2 := made_cell wr #[.string L[k].code, .int .i64 L[k].kind, .int .i64 L[k].peril, .int .i64 L[k].voluntary, .int .i64 L[k].reasonable, .int .i64 L[k].result, .string L[k].to] 26 2 (.int .i64 L[k].peril) rfl
      have d3 := made_cell wr #[.string L[k].code, .int .i64 L[k].kind, .int .i64 L[k].peril, .int .i64 L[k].voluntary, .int .i64 L[k].reasonable, .int .i64 L[k].result, .string L[k].to] 26 3 (.int .i64 L[k].voluntary) rfl
      have d4 := made_cell wr #[.string L[k].code, .int .i64 L[k].kind, .int .i64 L[k].peril, .int .i64 L[k].voluntary, .int .i64 L[k].reasonable, .int .i64 L[k].result, .string L[k].to] 26 4 (.int .i64 L[k].reasonable) rfl
      have d5 := made_cell wr #[.string L[k].code, .int .i64 L[k].kind, .int .i64 L[k].peril, .int .i64 L[k].voluntary, .int .i64 L[k].reasonable, .int .i64 L[k].result, .string L[k].to] 26 5 (.int .i64 L[k].result) rfl
      have d6 := made_cell wr #[.string L[k].code, .int .i64 L[k].kind, .int .i64 L[k].peril, .int .i64 L[k].voluntary, .int .i64 L[k].reasonable, .int .i64 L[k].result, .string L[k].to] 26 6 (.string L[k].to) rfl
      cases h2 : (findC L L[k].code == (k : Int))
      · have n2 : (findC L L[k].code != (k : Int)) = true := by rw [bne, h2]; rfl
        have HGF : Hid (goodAt L k = false) := by unfold Hid; rw [good_at hlt, h2]; rfl
        go_wp2_with fail
        refine (find_impl _ cap L _ _ (HA.out.below (hb.trans (B1.mono hb.size))) hlen).mono ?_
        rintro e w3 ⟨rfl, hb3⟩
        replace d0 := below_cell hb3 d0
        replace d1 := below_cell hb3 d1
        replace d2 := below_cell hb3 d2
        replace d3 := below_cell hb3 d3
        replace d4 := below_cell hb3 d4
        replace d5 := below_cell hb3 d5
        replace d6 := below_cell hb3 d6
        replace B1 := B1.trans (hb3.mono B1.size)
        clear hb3
        go_wp2
        go_ret
        exact ⟨ret_b (rb_good hlt HGF.out).symm, hb.trans (B1.mono hb.size)⟩
      have n2 : (findC L L[k].code != (k : Int)) = false := by rw [bne, h2]; rfl
      cases h3 : (L[k].result == 3)
      · have HGT : Hid (goodAt L k = true) := by unfold Hid; rw [good_at hlt, h2, h3]; rfl
        go_wp2_with fail
        refine (find_impl _ cap L _ _ (HA.out.below (hb.trans (B1.mono hb.size))) hlen).mono ?_
        rintro e w3 ⟨rfl, hb3⟩
        replace d0 := below_cell hb3 d0
        replace d1 := below_cell hb3 d1
        replace d2 := below_cell hb3 d2
        replace d3 := below_cell hb3 d3
        replace d4 := below_cell hb3 d4
        replace d5 := below_cell hb3 d5
        replace d6 := below_cell hb3 d6
        replace B1 := B1.trans (hb3.mono B1.size)
        clear hb3
        go_wp2
        go_roundw
        case rel => exact ⟨k + 1, by omega, by go_num, good_step HG.out HGT.out, hb.trans (B1.mono hb.size)⟩
        case measure => simp [intOf]; omega
      cases h4 : decide (findC L L[k].to ≤ (k : Int))
      · have HGT : Hid (goodAt L k = true) := by
          unfold Hid; rw [good_at hlt, h2, h3]; simp only [decide_eq_false_iff_not] at h4; simp; omega
        go_wp2_with fail
        refine (find_impl _ cap L _ _ (HA.out.below (hb.trans (B1.mono hb.size))) hlen).mono ?_
        rintro e w3 ⟨rfl, hb3⟩
        replace d0 := below_cell hb3 d0
        replace d1 := below_cell hb3 d1
        replace d2 := below_cell hb3 d2
        replace d3 := below_cell hb3 d3
        replace d4 := below_cell hb3 d4
        replace d5 := below_cell hb3 d5
        replace d6 := below_cell hb3 d6
        replace B1 := B1.trans (hb3.mono B1.size)
        clear hb3
        go_wp2_with fail
        refine (find_impl _ cap L _ _ (HA.out.below (hb.trans (B1.mono hb.size))) hlen).mono ?_
        rintro e w4 ⟨rfl, hb4⟩
        replace d0 := below_cell hb4 d0
        replace d1 := below_cell hb4 d1
        replace d2 := below_cell hb4 d2
        replace d3 := below_cell hb4 d3
        replace d4 := below_cell hb4 d4
        replace d5 := below_cell hb4 d5
        replace d6 := below_cell hb4 d6
        replace B1 := B1.trans (hb4.mono B1.size)
        clear hb4
        go_wp2
        go_roundw
        case rel => exact ⟨k + 1, by omega, by go_num, good_step HG.out HGT.out, hb.trans (B1.mono hb.size)⟩
        case measure => simp [intOf]; omega
      · have HGF : Hid (goodAt L k = false) := by
          unfold Hid; rw [good_at hlt, h2, h3]; simp only [decide_eq_true_eq] at h4; simp; omega
        go_wp2_with fail
        refine (find_impl _ cap L _ _ (HA.out.below (hb.trans (B1.mono hb.size))) hlen).mono ?_
        rintro e w3 ⟨rfl, hb3⟩
        replace d0 := below_cell hb3 d0
        replace d1 := below_cell hb3 d1
        replace d2 := below_cell hb3 d2
        replace d3 := below_cell hb3 d3
        replace d4 := below_cell hb3 d4
        replace d5 := below_cell hb3 d5
        replace d6 := below_cell hb3 d6
        replace B1 := B1.trans (hb3.mono B1.size)
        clear hb3
        go_wp2_with fail
        refine (find_impl _ cap L _ _ (HA.out.below (hb.trans (B1.mono hb.size))) hlen).mono ?_
        rintro e w4 ⟨rfl, hb4⟩
        replace d0 := below_cell hb4 d0
        replace d1 := below_cell hb4 d1
        replace d2 := below_cell hb4 d2
        replace d3 := below_cell hb4 d3
        replace d4 := below_cell hb4 d4
        replace d5 := below_cell hb4 d5
        replace d6 := below_cell hb4 d6
        replace B1 := B1.trans (hb4.mono B1.size)
        clear hb4
        go_wp2
        go_ret
        exact ⟨ret_b (rb_good hlt HGF.out).symm, hb.trans (B1.mono hb.size)⟩
    · obtain ⟨m, hm⟩ : ∃ m, L.length = m + 1 := ⟨L.length - 1, by omega⟩
      have hml : m < L.length := by omega
      obtain ⟨b, off, rfl, hlb, c0, c1, c2, c3, c4, c5, c6⟩ := HL.out m hml
      replace c0 := (hb.cell hlb).trans c0
      replace c1 := (hb.cell hlb).trans c1
      replace c2 := (hb.cell hlb).trans c2
      replace c3 := (hb.cell hlb).trans c3
      replace c4 := (hb.cell hlb).trans c4
      replace c5 := (hb.cell hlb).trans c5
      replace c6 := (hb.cell hlb).trans c6
      have hek : L.length ≤ k := by omega
      have HE : Hid (isRulebook L = lastOk L) := rb_end H0.out HALL.out (fun i hi => HG.out i (by omega))
      have HLA : Hid (lastOk L = isLast L[m]) := (last_at (by omega)).trans (by congr 1; simp only [hm, Nat.add_sub_cancel])
      have bd := Clause.ok_bd (List.all_eq_true.1 HALL.out _ (List.getElem_mem hml))
      have HS2 : Hid (isLast L[m] = (L[m].kind == -1 && (L[m].peril + L[m].voluntary + L[m].reasonable == 0) && !(L[m].result == 3))) := last_sum bd
      obtain ⟨bk, bp, bv, br, bs⟩ := bd
      obtain ⟨bp1, bp2⟩ := bp
      obtain ⟨bv1, bv2⟩ := bv
      obtain ⟨br1, br2⟩ := br
      clear bk bs
      have B1 : Below wr.heap.size wr (wr.alloc (.cells #[.string L[m].code, .int .i64 L[m].kind, .int .i64 L[m].peril, .int .i64 L[m].voluntary, .int .i64 L[m].reasonable, .int .i64 L[m].result, .string L[m].to] 26)) := (Below.refl _ _).alloc (Nat.le_refl _) _
      have d0 := made_cell wr #[.string L[m].code, .int .i64 L[m].kind, .int .i64 L[m].peril, .int .i64 L[m].voluntary, .int .i64 L[m].reasonable, .int .i64 L[m].result, .string L[m].to] 26 0 (.string L[m].code) rfl
      have d1 := made_cell wr #[.string L[m].code, .int .i64 L[m].kind, .int .i64 L[m].peril, .int .i64 L[m].voluntary, .int .i64 L[m].reasonable, .int .i64 L[m].result, .string L[m].to] 26 1 (.int .i64 L[m].kind) rfl
      have d2 := made_cell wr #[.string L[m].code, .int .i64 L[m].kind, .int .i64 L[m].peril, .int .i64 L[m].voluntary, .int .i64 L[m].reasonable, .int .i64 L[m].result, .string L[m].to] 26 2 (.int .i64 L[m].peril) rfl
      have d3 := made_cell wr #[.string L[m].code, .int .i64 L[m].kind, .int .i64 L[m].peril, .int .i64 L[m].voluntary, .int .i64 L[m].reasonable, .int .i64 L[m].result, .string L[m].to] 26 3 (.int .i64 L[m].voluntary) rfl
      have d4 := made_cell wr #[.string L[m].code, .int .i64 L[m].kind, .int .i64 L[m].peril, .int .i64 L[m].voluntary, .int .i64 L[m].reasonable, .int .i64 L[m].result, .string L[m].to] 26 4 (.int .i64 L[m].reasonable) rfl
      have d5 := made_cell wr #[.string L[m].code, .int .i64 L[m].kind, .int .i64 L[m].peril, .int .i64 L[m].voluntary, .int .i64 L[m].reasonable, .int .i64 L[m].result, .string L[m].to] 26 5 (.int .i64 L[m].result) rfl
      have d6 := made_cell wr #[.string L[m].code, .int .i64 L[m].kind, .int .i64 L[m].peril, .int .i64 L[m].voluntary, .int .i64 L[m].reasonable, .int .i64 L[m].result, .string L[m].to] 26 6 (.string L[m].to) rfl
      have HB1 := Lib.hid B1
      have HMM := Lib.hid hm
      clear B1
      rw [hm]
      clear hek
      cases g0 : (L[m].kind == -1)
      · have H0 := Lib.hid g0
        go_wp2
        go_ret
        refine ⟨ret_b ?_, hb.trans (HB1.out.mono hb.size)⟩
        rw [HE.out, HLA.out]
        rw [HS2.out]; simp only [H0.out]; rfl
      · have H0 := Lib.hid g0
        cases g1 : (L[m].peril + L[m].voluntary + L[m].reasonable == 0)
        · have H1 := Lib.hid g1
          go_wp2
          go_ret
          refine ⟨ret_b ?_, hb.trans (HB1.out.mono hb.size)⟩
          rw [HE.out, HLA.out]
          rw [HS2.out]; simp only [H0.out, H1.out]; rfl
        · have H1 := Lib.hid g1
          cases g2 : (L[m].result == 3)
          · have H2 := Lib.hid g2
            have n2 : (L[m].result != 3) = true := by rw [bne, g2]; rfl
            go_wp2
            go_ret
            refine ⟨ret_b ?_, hb.trans (HB1.out.mono hb.size)⟩
            rw [HE.out, HLA.out]
            rw [HS2.out]; simp only [H0.out, H1.out, H2.out]; rfl
          · have H2 := Lib.hid g2
            have n2 : (L[m].result != 3) = false := by rw [bne, g2]; rfl
            go_wp2
            go_ret
            refine ⟨ret_b ?_, hb.trans (HB1.out.mono hb.size)⟩
            rw [HE.out, HLA.out]
            rw [HS2.out]; simp only [H0.out, H1.out, H2.out]; rfl

end Go.Proofs.Ythhfhdekhgkcaaa
