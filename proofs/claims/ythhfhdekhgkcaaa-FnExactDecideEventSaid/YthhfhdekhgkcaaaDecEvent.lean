/-
  DecideEvent on both sides.
-/
import Derived.Test.YthhfhdekhgkcaaaDecLaw
namespace Go.Proofs.Ythhfhdekhgkcaaa
open Go.RowKit

def decE (L : List Clause) (e : Event) : Dec × Int := if isRulebook L && e.okB then (decOf L e, 0) else ((0, []), 1)
def DecMadeC (w : World) (d : Dec) (code : Int) (e : Ending) (w' : World) : Prop :=
  ∃ A cap, e = .returned (.tuple #[.agg #[.int .i64 d.1, .slice A d.2.length cap], .int .i64 code]) ∧ w'.ownsRow w.heap.size 9 1 (.slice A d.2.length cap) d.2.length (Texts.flat d.2) ∧ Below w.heap.size w w'
theorem decE_12 (L : List Clause) (e : Event) : (decE L e).1.2.length ≤ 12 := by
  unfold decE; split
  · rename_i h
    simp only [Bool.and_eq_true] at h
    simp only [decOf, chainCodes, List.length_map]
    exact chain_len (rule_of h.1) e
  · simp
theorem dec_finC {w W : World} {d : Dec} {code : Int} {A : Option Addr} {cap : Nat} {u v : Value} (h : W.ownsRow (w.heap.size + 2) 9 1 (.slice A d.2.length cap) d.2.length (Texts.flat d.2)) (hb : Below w.heap.size w W) :
    DecMadeC w d code (.returned (.tuple #[.agg #[.int .i64 d.1, .slice A d.2.length cap], .int .i64 code])) ((W.setCell ⟨w.heap.size + 1, 0, none⟩ u).setCell ⟨w.heap.size + 1, 1, none⟩ v) := by
  obtain ⟨A', cap', e, ho, hB⟩ := dec_fin (r := d.1) (u := u) (v := v) rfl h hb
  injection e with e
  injection e with e
  have e2 : ([Value.int .i64 d.1, Value.slice A d.2.length cap] : List Value) = [Value.int .i64 d.1, Value.slice A' d.2.length cap'] := by
    have := congrArg Array.toList e; simpa using this
  injection e2 with _ e2
  injection e2 with e2 _
  injection e2 with e2 _ e3
  subst e2; subst e3
  exact ⟨A, cap, rfl, ho, hB⟩
theorem dec_put {W wd : World} {p base c n : Nat} {r : Int} {A : Option Addr} {u0 u1 : Value} {xs : List Value} (R : Below W.heap.size W wd) (hp1 : W.heap.size ≤ p) (hp2 : p < base) (ow : wd.ownsRow base 9 1 (.slice A n c) n xs) (owW : wd.ownsRow W.heap.size 9 1 (.slice A n c) n xs)
    (y0 : wd.cell? ⟨p, 0, none⟩ = some u0) (y1 : wd.cell? ⟨p, 1, none⟩ = some u1) :
    ((wd.setCell ⟨p, 0, none⟩ (.int .i64 r)).setCell ⟨p, 1, none⟩ (.slice A n c)).cell? ⟨p, 0, none⟩ = some (.int .i64 r) ∧ ((wd.setCell ⟨p, 0, none⟩ (.int .i64 r)).setCell ⟨p, 1, none⟩ (.slice A n c)).cell? ⟨p, 1, none⟩ = some (.slice A n c) ∧
    ((wd.setCell ⟨p, 0, none⟩ (.int .i64 r)).setCell ⟨p, 1, none⟩ (.slice A n c)).ownsRow W.heap.size 9 1 (.slice A n c) n xs ∧ Below W.heap.size W ((wd.setCell ⟨p, 0, none⟩ (.int .i64 r)).setCell ⟨p, 1, none⟩ (.slice A n c)) := by
  have hg : wd.grownBy ((wd.setCell ⟨p, 0, none⟩ (.int .i64 r)).setCell ⟨p, 1, none⟩ (.slice A n c)) (some p) := grown_tr (grown_set _ _ _ _) (grown_set _ _ _ _)
  have n01 : (⟨p, 1, none⟩ : Addr) ≠ ⟨p, 0, none⟩ := by intro h; injection h with _ h _; cases h
  have n10 : (⟨p, 0, none⟩ : Addr) ≠ ⟨p, 1, none⟩ := by intro h; injection h with _ h _; cases h
  refine ⟨?_, ?_, own_kept owW hg ?_, R.grown hg R.size (fun g hg' => by injection hg' with e; omega)⟩
  · rw [World.cell?_setCell_other _ _ _ _ n01]
    exact World.cell?_setCell_same _ _ _ y0
  · exact World.cell?_setCell_same _ _ _ ((World.cell?_setCell_other _ _ _ _ n10).trans y1)
  · cases hA : A.map (·.block) with
    | none => exact .inl rfl
    | some x =>
      refine .inr fun e => ?_
      injection e with e
      have := (ow.lt x (by rw [ownBlock_map]; exact hA)).1
      omega

set_option maxHeartbeats 4000000 in
set_option maxRecDepth 100000 in
theorem DecideEvent_spec (A : Option Addr) (cap : Nat) (L : List Clause) (e : Event) (w : World) (hL : Clause.At w A L) (hs : ∀ s ∈ L, s.tiny) (he : e.tiny) (hlen : L.length ≤ 9223372036854775807) :
    Calls Try.prog 36 #[.slice A L.length cap, e.val] w (DecMadeC w (decE L e).1 (decE L e).2) := by
  have HA := Lib.hid hL
  have HX0 : Hid (Below (w.heap.size + 2) ((w.alloc (.cells #[.int .i64 e.day, .int .i64 e.kind, .string e.interest, .int .i64 e.amount, .bool e.peril, .bool e.voluntary, .bool e.reasonable] 34)).alloc (.cells #[.int .i64 0, .slice none 0 0] 53)) ((w.alloc (.cells #[.int .i64 e.day, .int .i64 e.kind, .string e.interest, .int .i64 e.amount, .bool e.peril, .bool e.voluntary, .bool e.reasonable] 34)).alloc (.cells #[.int .i64 0, .slice none 0 0] 53))) := Below.refl _ _
  have E0 := Lib.hid (made_cell w #[.int .i64 e.day, .int .i64 e.kind, .string e.interest, .int .i64 e.amount, .bool e.peril, .bool e.voluntary, .bool e.reasonable] 34 0 (.int .i64 e.day) rfl)
  have E1 := Lib.hid (made_cell w #[.int .i64 e.day, .int .i64 e.kind, .string e.interest, .int .i64 e.amount, .bool e.peril, .bool e.voluntary, .bool e.reasonable] 34 1 (.int .i64 e.kind) rfl)
  have E2 := Lib.hid (made_cell w #[.int .i64 e.day, .int .i64 e.kind, .string e.interest, .int .i64 e.amount, .bool e.peril, .bool e.voluntary, .bool e.reasonable] 34 2 (.string e.interest) rfl)
  have E3 := Lib.hid (made_cell w #[.int .i64 e.day, .int .i64 e.kind, .string e.interest, .int .i64 e.amount, .bool e.peril, .bool e.voluntary, .bool e.reasonable] 34 3 (.int .i64 e.amount) rfl)
  have E4 := Lib.hid (made_cell w #[.int .i64 e.day, .int .i64 e.kind, .string e.interest, .int .i64 e.amount, .bool e.peril, .bool e.voluntary, .bool e.reasonable] 34 4 (.bool e.peril) rfl)
  have E5 := Lib.hid (made_cell w #[.int .i64 e.day, .int .i64 e.kind, .string e.interest, .int .i64 e.amount, .bool e.peril, .bool e.voluntary, .bool e.reasonable] 34 5 (.bool e.voluntary) rfl)
  have E6 := Lib.hid (made_cell w #[.int .i64 e.day, .int .i64 e.kind, .string e.interest, .int .i64 e.amount, .bool e.peril, .bool e.voluntary, .bool e.reasonable] 34 6 (.bool e.reasonable) rfl)
  have e0 := b2_cell HX0.out E0.out
  have e1 := b2_cell HX0.out E1.out
  have e2 := b2_cell HX0.out E2.out
  have e3 := b2_cell HX0.out E3.out
  have e4 := b2_cell HX0.out E4.out
  have e5 := b2_cell HX0.out E5.out
  have e6 := b2_cell HX0.out E6.out
  have HR1 := isRulebook_spec A cap L ((w.alloc (.cells #[.int .i64 e.day, .int .i64 e.kind, .string e.interest, .int .i64 e.amount, .bool e.peril, .bool e.voluntary, .bool e.reasonable] 34)).alloc (.cells #[.int .i64 0, .slice none 0 0] 53)) (HA.out.below (b2_below HX0.out)) hs hlen
  cases hv : isRulebook L
  · have HQ : Hid (decE L e = ((0, []), 1)) := by unfold Hid; rw [decE, hv]; rfl
    rw [hv] at HR1
    have HR2 := Lib.hid HR1
    clear HR1 hv hL
    go_enter Try.func36, Try.ntmps36
    go_wp2_with fail
    refine HR2.out.mono ?_
    rintro e' w1 ⟨rfl, hb⟩
    have HX1 := Lib.hid (HX0.out.trans (hb.mono (b2_size HX0.out)))
    clear hb e0 e1 e2 e3 e4 e5 e6
    have z0 := b2_cell1 (j := 0) HX1.out rfl
    have z1 := b2_cell1 (j := 1) HX1.out rfl
    have zf := b2_frozen HX1.out
    go_wp2
    rw [HQ.out]
    refine bodyPost_ret (v := .tuple #[.agg #[.int .i64 0, .slice none 0 0], .int .i64 1]) (by simp [results, Try.results36, go_sem, z0, z1]) rfl ?_
    exact dec_finC (d := (0, [])) (World.ownsRow_nil _ _ _ _) (b2_below HX1.out)
  rw [hv] at HR1
  have HR2 := Lib.hid HR1
  cases hv2 : e.okB
  · have HQ : Hid (decE L e = ((0, []), 1)) := by unfold Hid; rw [decE, hv, hv2]; rfl
    clear HR1 hv hL
    go_enter Try.func36, Try.ntmps36
    go_wp2_with fail
    refine HR2.out.mono ?_
    rintro e' w1 ⟨rfl, hb⟩
    have HX1 := Lib.hid (HX0.out.trans (hb.mono (b2_size HX0.out)))
    clear hb e0 e1 e2 e3 e4 e5 e6
    have e0 := b2_cell HX1.out E0.out
    have e1 := b2_cell HX1.out E1.out
    have e2 := b2_cell HX1.out E2.out
    have e3 := b2_cell HX1.out E3.out
    have e4 := b2_cell HX1.out E4.out
    have e5 := b2_cell HX1.out E5.out
    have e6 := b2_cell HX1.out E6.out
    go_wp2_with fail
    refine (calls_b hv2 (isEvent_spec e he _)).mono ?_
    rintro e' w2 ⟨rfl, hb⟩
    have HX2 := Lib.hid (HX1.out.trans (hb.mono (b2_size HX1.out)))
    clear hb e0 e1 e2 e3 e4 e5 e6
    have z0 := b2_cell1 (j := 0) HX2.out rfl
    have z1 := b2_cell1 (j := 1) HX2.out rfl
    have zf := b2_frozen HX2.out
    go_wp2
    rw [HQ.out]
    refine bodyPost_ret (v := .tuple #[.agg #[.int .i64 0, .slice none 0 0], .int .i64 1]) (by simp [results, Try.results36, go_sem, z0, z1]) rfl ?_
    exact dec_finC (d := (0, [])) (World.ownsRow_nil _ _ _ _) (b2_below HX2.out)
  have HQ : Hid (decE L e = (decOf L e, 0)) := by unfold Hid; rw [decE, hv, hv2]; rfl
  have HR := Lib.hid (rule_of hv)
  clear HR1 hv hL
  go_enter Try.func36, Try.ntmps36
  go_wp2_with fail
  refine HR2.out.mono ?_
  rintro e' w1 ⟨rfl, hb⟩
  have HX1 := Lib.hid (HX0.out.trans (hb.mono (b2_size HX0.out)))
  clear hb e0 e1 e2 e3 e4 e5 e6
  have e0 := b2_cell HX1.out E0.out
  have e1 := b2_cell HX1.out E1.out
  have e2 := b2_cell HX1.out E2.out
  have e3 := b2_cell HX1.out E3.out
  have e4 := b2_cell HX1.out E4.out
  have e5 := b2_cell HX1.out E5.out
  have e6 := b2_cell HX1.out E6.out
  go_wp2_with fail
  refine (calls_b hv2 (isEvent_spec e he _)).mono ?_
  rintro e' w2 ⟨rfl, hb⟩
  have HX2 := Lib.hid (HX1.out.trans (hb.mono (b2_size HX1.out)))
  clear hb e0 e1 e2 e3 e4 e5 e6
  have e0 := b2_cell HX2.out E0.out
  have e1 := b2_cell HX2.out E1.out
  have e2 := b2_cell HX2.out E2.out
  have e3 := b2_cell HX2.out E3.out
  have e4 := b2_cell HX2.out E4.out
  have e5 := b2_cell HX2.out E5.out
  have e6 := b2_cell HX2.out E6.out
  go_wp2_with fail
  refine (decide_spec A cap L e w2 (HA.out.below (b2_below HX2.out)) HR.out).mono ?_
  rintro e' w3 ⟨B, c, rfl, ho, hb⟩
  have HX3 := Lib.hid (HX2.out.trans (hb.mono (b2_size HX2.out)))
  have HO := Lib.hid (own_base ho (b2_size HX2.out))
  clear hb ho e0 e1 e2 e3 e4 e5 e6
  have z0 := b2_cell1 (j := 0) HX3.out rfl
  have z1 := b2_cell1 (j := 1) HX3.out rfl
  have zf := b2_frozen HX3.out
  go_wp2
  rw [HQ.out]
  refine bodyPost_ret (v := .tuple #[.agg #[.int .i64 (chainRes L e), .slice B (chainCodes L e).length c], .int .i64 0]) (by simp [results, Try.results36, go_sem, z0, z1]) rfl ?_
  exact dec_finC (d := decOf L e) HO.out (b2_below HX3.out)

set_option maxHeartbeats 4000000 in
set_option maxRecDepth 100000 in
theorem DecideEvent_impl (b off cap : Nat) (L : List Clause) (e : Event) (w : World) (hL : Clause.At w (some ⟨b, off, none⟩) L) (hs : ∀ s ∈ L, s.tiny) (he : e.tiny) (hlen : L.length ≤ 9223372036854775807) (hcap : L.length ≤ cap) (hcm : cap ≤ 9223372036854775807) :
    Calls Try.prog 37 #[.slice (some ⟨b, off, none⟩) L.length cap, e.val] w (DecMadeC w (decE L e).1 (decE L e).2) := by
  have HA := Lib.hid hL
  have HX0 : Hid (Below (w.heap.size + 2) ((w.alloc (.cells #[.int .i64 e.day, .int .i64 e.kind, .string e.interest, .int .i64 e.amount, .bool e.peril, .bool e.voluntary, .bool e.reasonable] 34)).alloc (.cells #[.int .i64 0, .slice none 0 0] 53)) ((w.alloc (.cells #[.int .i64 e.day, .int .i64 e.kind, .string e.interest, .int .i64 e.amount, .bool e.peril, .bool e.voluntary, .bool e.reasonable] 34)).alloc (.cells #[.int .i64 0, .slice none 0 0] 53))) := Below.refl _ _
  have E0 := Lib.hid (made_cell w #[.int .i64 e.day, .int .i64 e.kind, .string e.interest, .int .i64 e.amount, .bool e.peril, .bool e.voluntary, .bool e.reasonable] 34 0 (.int .i64 e.day) rfl)
  have E1 := Lib.hid (made_cell w #[.int .i64 e.day, .int .i64 e.kind, .string e.interest, .int .i64 e.amount, .bool e.peril, .bool e.voluntary, .bool e.reasonable] 34 1 (.int .i64 e.kind) rfl)
  have E2 := Lib.hid (made_cell w #[.int .i64 e.day, .int .i64 e.kind, .string e.interest, .int .i64 e.amount, .bool e.peril, .bool e.voluntary, .bool e.reasonable] 34 2 (.string e.interest) rfl)
  have E3 := Lib.hid (made_cell w #[.int .i64 e.day, .int .i64 e.kind, .string e.interest, .int .i64 e.amount, .bool e.peril, .bool e.voluntary, .bool e.reasonable] 34 3 (.int .i64 e.amount) rfl)
  have E4 := Lib.hid (made_cell w #[.int .i64 e.day, .int .i64 e.kind, .string e.interest, .int .i64 e.amount, .bool e.peril, .bool e.voluntary, .bool e.reasonable] 34 4 (.bool e.peril) rfl)
  have E5 := Lib.hid (made_cell w #[.int .i64 e.day, .int .i64 e.kind, .string e.interest, .int .i64 e.amount, .bool e.peril, .bool e.voluntary, .bool e.reasonable] 34 5 (.bool e.voluntary) rfl)
  have E6 := Lib.hid (made_cell w #[.int .i64 e.day, .int .i64 e.kind, .string e.interest, .int .i64 e.amount, .bool e.peril, .bool e.voluntary, .bool e.reasonable] 34 6 (.bool e.reasonable) rfl)
  have e0 := b2_cell HX0.out E0.out
  have e1 := b2_cell HX0.out E1.out
  have e2 := b2_cell HX0.out E2.out
  have e3 := b2_cell HX0.out E3.out
  have e4 := b2_cell HX0.out E4.out
  have e5 := b2_cell HX0.out E5.out
  have e6 := b2_cell HX0.out E6.out
  have HR1 := isRulebook_impl (some ⟨b, off, none⟩) cap L ((w.alloc (.cells #[.int .i64 e.day, .int .i64 e.kind, .string e.interest, .int .i64 e.amount, .bool e.peril, .bool e.voluntary, .bool e.reasonable] 34)).alloc (.cells #[.int .i64 0, .slice none 0 0] 53)) (HA.out.below (b2_below HX0.out)) hs hlen
  cases hv : isRulebook L
  · have HQ : Hid (decE L e = ((0, []), 1)) := by unfold Hid; rw [decE, hv]; rfl
    rw [hv] at HR1
    have HR2 := Lib.hid HR1
    clear HR1 hv hL
    go_enter Try.func37, Try.ntmps37
    go_wp2_with fail
    refine HR2.out.mono ?_
    rintro e' w1 ⟨rfl, hb⟩
    have HX1 := Lib.hid (HX0.out.trans (hb.mono (b2_size HX0.out)))
    clear hb e0 e1 e2 e3 e4 e5 e6
    have z0 := b2_cell1 (j := 0) HX1.out rfl
    have z1 := b2_cell1 (j := 1) HX1.out rfl
    have zf := b2_frozen HX1.out
    go_wp2
    rw [HQ.out]
    refine bodyPost_ret (v := .tuple #[.agg #[.int .i64 0, .slice none 0 0], .int .i64 1]) (by simp [results, Try.results37, go_sem, z0, z1]) rfl ?_
    exact dec_finC (d := (0, [])) (World.ownsRow_nil _ _ _ _) (b2_below HX1.out)
  rw [hv] at HR1
  have HR2 := Lib.hid HR1
  cases hv2 : e.okB
  · have HQ : Hid (decE L e = ((0, []), 1)) := by unfold Hid; rw [decE, hv, hv2]; rfl
    clear HR1 hv hL
    go_enter Try.func37, Try.ntmps37
    go_wp2_with fail
    refine HR2.out.mono ?_
    rintro e' w1 ⟨rfl, hb⟩
    have HX1 := Lib.hid (HX0.out.trans (hb.mono (b2_size HX0.out)))
    clear hb e0 e1 e2 e3 e4 e5 e6
    have e0 := b2_cell HX1.out E0.out
    have e1 := b2_cell HX1.out E1.out
    have e2 := b2_cell HX1.out E2.out
    have e3 := b2_cell HX1.out E3.out
    have e4 := b2_cell HX1.out E4.out
    have e5 := b2_cell HX1.out E5.out
    have e6 := b2_cell HX1.out E6.out
    go_wp2_with fail
    refine (calls_b hv2 (isEvent_impl e he _)).mono ?_
    rintro e' w2 ⟨rfl, hb⟩
    have HX2 := Lib.hid (HX1.out.trans (hb.mono (b2_size HX1.out)))
    clear hb e0 e1 e2 e3 e4 e5 e6
    have z0 := b2_cell1 (j := 0) HX2.out rfl
    have z1 := b2_cell1 (j := 1) HX2.out rfl
    have zf := b2_frozen HX2.out
    go_wp2
    rw [HQ.out]
    refine bodyPost_ret (v := .tuple #[.agg #[.int .i64 0, .slice none 0 0], .int .i64 1]) (by simp [results, Try.results37, go_sem, z0, z1]) rfl ?_
    exact dec_finC (d := (0, [])) (World.ownsRow_nil _ _ _ _) (b2_below HX2.out)
  have HQ : Hid (decE L e = (decOf L e, 0)) := by unfold Hid; rw [decE, hv, hv2]; rfl
  have HR := Lib.hid (rule_of hv)
  clear HR1 hv hL
  go_enter Try.func37, Try.ntmps37
  go_wp2_with fail
  refine HR2.out.mono ?_
  rintro e' w1 ⟨rfl, hb⟩
  have HX1 := Lib.hid (HX0.out.trans (hb.mono (b2_size HX0.out)))
  clear hb e0 e1 e2 e3 e4 e5 e6
  have e0 := b2_cell HX1.out E0.out
  have e1 := b2_cell HX1.out E1.out
  have e2 := b2_cell HX1.out E2.out
  have e3 := b2_cell HX1.out E3.out
  have e4 := b2_cell HX1.out E4.out
  have e5 := b2_cell HX1.out E5.out
  have e6 := b2_cell HX1.out E6.out
  go_wp2_with fail
  refine (calls_b hv2 (isEvent_impl e he _)).mono ?_
  rintro e' w2 ⟨rfl, hb⟩
  have HX2 := Lib.hid (HX1.out.trans (hb.mono (b2_size HX1.out)))
  clear hb e0 e1 e2 e3 e4 e5 e6
  have e0 := b2_cell HX2.out E0.out
  have e1 := b2_cell HX2.out E1.out
  have e2 := b2_cell HX2.out E2.out
  have e3 := b2_cell HX2.out E3.out
  have e4 := b2_cell HX2.out E4.out
  have e5 := b2_cell HX2.out E5.out
  have e6 := b2_cell HX2.out E6.out
  go_wp2_with fail
  refine (decide_impl b off cap L e w2 (HA.out.below (b2_below HX2.out)) HR.out hcap hcm).mono ?_
  rintro e' w3 ⟨B, c, rfl, ho, hb⟩
  have HX3 := Lib.hid (HX2.out.trans (hb.mono (b2_size HX2.out)))
  have HO := Lib.hid (own_base ho (b2_size HX2.out))
  clear hb ho e0 e1 e2 e3 e4 e5 e6
  have z0 := b2_cell1 (j := 0) HX3.out rfl
  have z1 := b2_cell1 (j := 1) HX3.out rfl
  have zf := b2_frozen HX3.out
  go_wp2
  rw [HQ.out]
  refine bodyPost_ret (v := .tuple #[.agg #[.int .i64 (chainRes L e), .slice B (chainCodes L e).length c], .int .i64 0]) (by simp [results, Try.results37, go_sem, z0, z1]) rfl ?_
  exact dec_finC (d := decOf L e) HO.out (b2_below HX3.out)
end Go.Proofs.Ythhfhdekhgkcaaa
