/-
  The generic functions over lists of impl.Event.
-/
import Derived.Test.YtfbafdnjjfmhjaaEvent
import Derived.Test.YtfbafdnjjfmhjaaInts
namespace Go.Proofs.Ytfbafdnjjfmhjaa
open Go.RowKit

set_option maxHeartbeats 1000000 in
set_option maxRecDepth 100000 in
theorem indexEvent (f : FuncId) (fc : Array Value) (A : Option Addr) (cap : Nat) (L : List Event) (p : Event → Bool) (w : World) (hL : Event.At w A L) (hf : Fun1 Try.prog f fc w Event.val p L) (hlen : L.length ≤ 9223372036854775807) :
    Calls Try.prog 143 #[.slice A L.length cap, .func (.func f) #[] fc] w fun e w' => e = .returned (.int .i64 (idx p L)) ∧ Below w.heap.size w w' := by
  have HL := Lib.hid hL.at_
  have HF := Lib.hid hf.calls
  have hcf := hf.enter
  clear hL hf
  go_enter Try.func143, Try.ntmps143
  go_wp2
  go_loopw [8] (fun i wr => ∃ k : Nat, k ≤ L.length ∧ i = .int .i64 k ∧ Hid (∀ x ∈ L.take k, p x = false) ∧ Below w.heap.size w wr) (fun i _ => L.length - (intOf i).toNat)
  case atStart => exact ⟨0, Nat.zero_le _, rfl, (by simp [Hid]), Below.refl _ _⟩
  case round =>
    obtain ⟨k, hk, rfl, HP, hb⟩ := hrel
    by_cases hlt : k < L.length
    · obtain ⟨b, off, rfl, hlb, c0, c1, c2, c3, c4, c5, c6⟩ := HL.out k hlt
      replace c0 := (hb.cell hlb).trans c0
      replace c1 := (hb.cell hlb).trans c1
      replace c2 := (hb.cell hlb).trans c2
      replace c3 := (hb.cell hlb).trans c3
      replace c4 := (hb.cell hlb).trans c4
      replace c5 := (hb.cell hlb).trans c5
      replace c6 := (hb.cell hlb).trans c6
      have HC := Lib.hid (HF.out wr hb L[k] (List.getElem_mem hlt))
      cases hp : p L[k]
      · have HQ := Lib.hid hp
        rw [hp] at HC
        clear hp
        go_wp2_with fail
        refine HC.out.mono ?_
        rintro e w1 ⟨rfl, hb1⟩
        go_wp2
        go_roundw
        case rel => exact ⟨k + 1, by omega, by go_num, take_step p L hlt HP.out HQ.out, hb.trans (hb1.mono hb.size)⟩
        case measure => simp [intOf]; omega
      · have HQ := Lib.hid hp
        rw [hp] at HC
        clear hp
        go_wp2_with fail
        refine HC.out.mono ?_
        rintro e w1 ⟨rfl, hb1⟩
        go_wp2
        go_ret
        exact ⟨ret_i (idx_hit p L hlt HP.out HQ.out).symm, hb.trans (hb1.mono hb.size)⟩
    · go_wp2
      go_ret
      refine ⟨ret_i (idx_none p L ?_).symm, hb⟩
      have := HP.out
      rwa [List.take_of_length_le (by omega)] at this

set_option maxHeartbeats 400000 in
set_option maxRecDepth 100000 in
theorem containsEvent (f : FuncId) (fc : Array Value) (A : Option Addr) (cap : Nat) (L : List Event) (p : Event → Bool) (w : World) (hL : Event.At w A L) (hf : Fun1 Try.prog f fc w Event.val p L) (hlen : L.length ≤ 9223372036854775807) :
    Calls Try.prog 134 #[.slice A L.length cap, .func (.func f) #[] fc] w fun e w' => e = .returned (.bool (L.any p)) ∧ Below w.heap.size w w' := by
  have HX := Lib.hid (indexEvent f fc A cap L p w hL hf hlen)
  have HA := Lib.hid (idx_any p L)
  clear hL hf
  go_enter Try.func134, Try.ntmps134
  go_wp2_with fail
  refine HX.out.mono ?_
  rintro e w1 ⟨rfl, hb1⟩
  go_wp2
  go_ret
  exact ⟨ret_b HA.out, hb1⟩

set_option maxHeartbeats 400000 in
set_option maxRecDepth 100000 in
theorem allNotEvent (x : Event) (a : Addr) (f : FuncId) (fc : Array Value) (w : World) (p : Bool) (hc : w.cell? a = some (.func (.func f) #[] fc)) (hcf : ∀ args w, (callFunc f args).run Try.prog w = .ok (.enter f args) w)
    (h : ∀ W, Below w.heap.size w W → Calls Try.prog f (#[Event.val x] ++ fc) W fun e w' => e = .returned (.bool p) ∧ Below W.heap.size W w') :
    Calls Try.prog 135 #[Event.val x, .pointer (some a)] w fun e w' => e = .returned (.bool (!p)) ∧ Below w.heap.size w w' := by
  have B1 : Below w.heap.size w (w.alloc (.cells #[.int .i64 x.day, .int .i64 x.kind, .string x.interest, .int .i64 x.amount, .bool x.peril, .bool x.voluntary, .bool x.reasonable] 26)) := (Below.refl _ _).alloc (Nat.le_refl _) _
  have H := Lib.hid (h _ B1)
  have hc1 := below_cell B1 hc
  have HB := Lib.hid B1
  clear h hc B1
  go_enter Try.func135, Try.ntmps135
  go_wp2_with fail
  refine H.out.mono ?_
  rintro e w' ⟨rfl, hb⟩
  have HB2 := Lib.hid (HB.out.trans (hb.mono HB.out.size))
  clear hb
  go_wp2
  go_ret
  exact ⟨rfl, HB2.out⟩

set_option maxHeartbeats 400000 in
set_option maxRecDepth 100000 in
theorem allEvent (f : FuncId) (fc : Array Value) (A : Option Addr) (cap : Nat) (L : List Event) (p : Event → Bool) (w : World) (hL : Event.At w A L) (hf : Fun1 Try.prog f fc w Event.val p L) (hlen : L.length ≤ 9223372036854775807) :
    Calls Try.prog 122 #[.slice A L.length cap, .func (.func f) #[] fc] w fun e w' => e = .returned (.bool (L.all p)) ∧ Below w.heap.size w w' := by
  have B1 : Below w.heap.size w (w.alloc (.cells #[.func (.func f) #[] fc] 25)) := (Below.refl _ _).alloc (Nat.le_refl _) _
  have HX := Lib.hid (containsEvent 135 #[.pointer (some ⟨w.heap.size, 0, none⟩)] A cap L (fun x => !p x) (w.alloc (.cells #[.func (.func f) #[] fc] 25)) (hL.below B1)
    ⟨run_callFunc_enter Try.func135 (by kernel_rfl) (by kernel_rfl), fun w' hb x hx => allNotEvent x ⟨w.heap.size, 0, none⟩ f fc w' (p x) (below_cell hb (World.cell?_alloc_mark _ _ _ _ _)) hf.enter (fun W hW => hf.calls W ((B1.trans (hb.mono B1.size)).trans (hW.mono (B1.trans (hb.mono B1.size)).size)) x hx)⟩ hlen)
  have HA : Hid ((!L.any fun x => !p x) = L.all p) := by
    unfold Hid
    rw [List.all_eq_not_any_not]
  clear hL hf
  go_enter Try.func122, Try.ntmps122
  go_wp2_with fail
  refine HX.out.mono ?_
  rintro e w1 ⟨rfl, hb1⟩
  have hb2 := Lib.hid (B1.trans (hb1.mono B1.size))
  clear hb1 B1
  go_wp2
  go_ret
  exact ⟨ret_b HA.out, hb2.out⟩



set_option maxHeartbeats 400000 in
set_option maxRecDepth 100000 in
theorem copyOfEvent (A : Option Addr) (cap : Nat) (L : List Event) (w : World) (hL : Event.At w A L) (hlen : L.length ≤ 1048576) :
    Calls Try.prog 89 #[.slice A L.length cap] w (Event.Made w L) := by
  have hcell := hL.2
  have hn : (Event.flat L).length = L.length * 7 := hL.1
  obtain ⟨i0, hi, hz0, hz1, hz2⟩ := info_parts Event.info
  have hown0 := World.ownsRow_made (base := w.heap.size) (e := 26) (size := 7) w #[] 0 (Nat.le_refl _) (by unfold maxLen; omega) (by simp)
  by_cases h0 : 0 < L.length
  · obtain ⟨b, off, rfl, hlt, hc⟩ := hcell h0
    have hc' : ∀ j u, (Event.flat L)[j]? = some u → (w.alloc (.cells #[] 26)).cell? ((⟨b, off, none⟩ : Addr).add j) = some u := fun j u hj => by
      rw [Go.WideShapes.add_plain]
      exact (World.cell?_alloc_lt w _ _ hlt).trans (hc j u hj)
    have HC := Lib.hid hc'
    have HO := Lib.hid hown0
    have HN := Lib.hid hn
    clear hc hc' hown0 hcell hL hn
    go_enter Try.func89, Try.ntmps89
    go_wp2_with (at_builtin; refine wpList_append_own _ rfl _ _ 32 rfl w.heap.size 26 i0 _ 7 48 Try.underlying32 hi hz0 hz1 hz2 rfl (by decide) _ _ _ rfl HO.out ⟨b, off, none⟩ L.length cap (Event.flat L) rfl HN.out ?c1 ?c2 ?c3 ?c4 ?c5 ?_)
    case c1 => exact HC.out
    case c2 => exact Event.ones L
    case c3 => unfold maxLen; omega
    case c4 => omega
    case c5 => simp
    intro v' w1 hown hgr hnil
    have HB := Lib.hid (((Below.refl w.heap.size w).alloc (Nat.le_refl _) _).grown hgr (by simp) (by simp [Value.ownBlock]))
    obtain ⟨A', cap', rfl, _⟩ := own_shape hown
    have H1 := Lib.hid hown
    clear hown hgr hnil
    go_wp2
    go_ret
    exact ⟨A', cap', rfl, H1.out, HB.out⟩
  · have hl0 : L = [] := List.length_eq_zero_iff.1 (by omega)
    subst hl0
    have HO := Lib.hid hown0
    clear hown0 hcell hL hn
    have fin : ∀ (v' : Value) (w1 : World), w1.ownsRow w.heap.size 26 7 v' 0 ([] : List Value) → Below w.heap.size w w1 → Event.Made w [] (.returned v') w1 := fun v' w1 ho hb => by
      obtain ⟨A', cap', rfl, _⟩ := own_shape ho
      exact ⟨A', cap', rfl, ho, hb⟩
    have FIN := Lib.hid fin
    clear fin
    cases A with
    | none =>
      go_enter Try.func89, Try.ntmps89
      go_wp2_with (at_builtin; refine wpList_append_own_none _ rfl _ _ 32 rfl w.heap.size 26 i0 7 Try.underlying32 hi hz1 _ _ _ rfl HO.out _ _ rfl ?_)
      go_wp2
      go_ret
      exact FIN.out _ _ HO.out ((Below.refl _ _).alloc (Nat.le_refl _) _)
    | some ad =>
      go_enter Try.func89, Try.ntmps89
      go_wp2_with (at_builtin; refine wpList_append_own _ rfl _ _ 32 rfl w.heap.size 26 i0 _ 7 48 Try.underlying32 hi hz0 hz1 hz2 rfl (by decide) _ _ _ rfl HO.out ad 0 cap [] rfl rfl ?c1 ?c2 ?c3 ?c4 ?c5 ?_)
      case c1 => intro j u hu; simp at hu
      case c2 => intro u hu; simp at hu
      case c3 => unfold maxLen; omega
      case c4 => omega
      case c5 => simp
      intro v' w1 hown hgr hnil
      have HB := Lib.hid (((Below.refl w.heap.size w).alloc (Nat.le_refl _) _).grown hgr (by simp) (by simp [Value.ownBlock]))
      have H1 := Lib.hid hown
      clear hown hgr hnil
      go_wp2
      go_ret
      exact FIN.out _ _ H1.out HB.out

set_option maxHeartbeats 2000000 in
set_option maxRecDepth 100000 in
theorem indicesEvent (f : FuncId) (fc : Array Value) (A : Option Addr) (cap : Nat) (L : List Event) (p : Event → Bool) (w : World) (hL : Event.At w A L) (hf : Fun1 Try.prog f fc w Event.val p L) (hlen : L.length ≤ 1048576) :
    Calls Try.prog 83 #[.slice A L.length cap, .func (.func f) #[] fc] w (Ints.Made w (idxs p L)) := by
  have HL := Lib.hid hL.at_
  have HF := Lib.hid hf.calls
  have hcf := hf.enter
  obtain ⟨i0, hi, hz0, hz1, hz2⟩ := info_parts Ints.info
  have hown0 := World.ownsRow_made (base := w.heap.size) (e := 2) (size := 1) w #[] 0 (Nat.le_refl _) (by unfold maxLen; omega) (by simp)
  have HO := Lib.hid hown0
  clear hL hf hown0
  go_enter Try.func83, Try.ntmps83
  go_wp2
  go_loopw [5, 11] (fun o i wr => ∃ (k : Nat) (B : Option Addr) (cb : Nat), k ≤ L.length ∧ i = .int .i64 k ∧ o = .slice B (idxs p (L.take k)).length cb ∧ wr.ownsRow w.heap.size 2 1 (.slice B (idxs p (L.take k)).length cb) (idxs p (L.take k)).length (Ints.flat (idxs p (L.take k))) ∧ Below w.heap.size w wr) (fun _ i _ => L.length - (intOf i).toNat)
  case atStart => exact ⟨0, _, _, Nat.zero_le _, rfl, rfl, HO.out, (Below.refl _ _).alloc (Nat.le_refl _) _⟩
  case round =>
    obtain ⟨k, B, cb, hk, rfl, rfl, hown, hb⟩ := hrel
    obtain ⟨M, hMM⟩ : ∃ M, M = idxs p (L.take k) := ⟨_, rfl⟩
    rw [← hMM] at hown ⊢
    have hMl : M.length ≤ k := by rw [hMM]; exact Nat.le_trans (idxs_len p _) (by simp; omega)
    have HM := Lib.hid hMM
    have H0 := Lib.hid hown
    clear hMM hown
    by_cases hlt : k < L.length
    · obtain ⟨b, off, rfl, hlb, c0, c1, c2, c3, c4, c5, c6⟩ := HL.out k hlt
      replace c0 := (hb.cell hlb).trans c0
      replace c1 := (hb.cell hlb).trans c1
      replace c2 := (hb.cell hlb).trans c2
      replace c3 := (hb.cell hlb).trans c3
      replace c4 := (hb.cell hlb).trans c4
      replace c5 := (hb.cell hlb).trans c5
      replace c6 := (hb.cell hlb).trans c6
      have B1 : Below wr.heap.size wr (wr.alloc (.cells #[.int .i64 L[k].day, .int .i64 L[k].kind, .string L[k].interest, .int .i64 L[k].amount, .bool L[k].peril, .bool L[k].voluntary, .bool L[k].reasonable] 26)) := (Below.refl _ _).alloc (Nat.le_refl _) _
      have HC := Lib.hid (HF.out (wr.alloc (.cells #[.int .i64 L[k].day, .int .i64 L[k].kind, .string L[k].interest, .int .i64 L[k].amount, .bool L[k].peril, .bool L[k].voluntary, .bool L[k].reasonable] 26)) (hb.trans (B1.mono hb.size)) L[k] (List.getElem_mem hlt))
      have HB1 := Lib.hid B1
      clear B1
      cases hp : p L[k]
      · have HQ := Lib.hid hp
        rw [hp] at HC
        clear hp
        go_wp2_with fail
        refine HC.out.mono ?_
        rintro e w1 ⟨rfl, hb1⟩
        have HB2 := Lib.hid (HB1.out.trans (hb1.mono HB1.out.size))
        clear hb1
        go_wp2
        go_roundw
        case rel =>
          refine ⟨k + 1, B, cb, by omega, by go_num, by rw [idxs_miss p L hlt HQ.out, ← HM.out], ?_, hb.trans (HB2.out.mono hb.size)⟩
          rw [idxs_miss p L hlt HQ.out, ← HM.out]
          exact own_below H0.out HB2.out
        case measure => simp [intOf]; omega
      · have HQ := Lib.hid hp
        rw [hp] at HC
        clear hp
        go_wp2_with fail
        refine HC.out.mono ?_
        rintro e w1 ⟨rfl, hb1⟩
        have HB2 := Lib.hid (HB1.out.trans (hb1.mono HB1.out.size))
        clear hb1
        have H1 := Lib.hid ((own_below H0.out HB2.out).alloc (.cells #[.int .i64 k] 2))
        have hsz := HB2.out.size
        have hsz2 := hb.size
        go_wp2_with (at_builtin; refine wpList_append_own _ rfl _ _ 36 rfl w.heap.size 2 i0 _ 1 8 Try.underlying36 hi hz0 hz1 hz2 rfl (by decide) _ _ _ rfl H1.out ⟨w1.heap.size, 0, none⟩ 1 1 [.int .i64 k] rfl rfl ?c1 ?c2 ?c3 ?c4 ?c5 ?_)
        case c1 => exact cell_one_new _ _ _
        case c2 => intro u hu; simp at hu; subst hu; rfl
        case c3 => unfold maxLen; omega
        case c4 => omega
        case c5 => simp; omega
        intro v' w2 hown' hgr hnil
        have HB3 := Lib.hid ((((hb.trans (HB2.out.mono hb.size)).alloc (Nat.le_trans hb.size HB2.out.size) _)).grown hgr (by simp; omega) (fun g hg => (H0.out.lt g hg).1))
        obtain ⟨A', cap', rfl, _⟩ := own_shape hown'
        have H2 := Lib.hid hown'
        clear hown' hgr hnil
        go_wp2
        go_roundw
        case rel =>
          have e : idxs p (L.take (k + 1)) = M ++ [(k : Int)] := by rw [idxs_hit p L hlt HQ.out, ← HM.out]
          refine ⟨k + 1, A', cap', by omega, by go_num, by rw [e, List.length_append]; rfl, ?_, HB3.out⟩
          rw [e, List.length_append, Ints.flat, List.flatMap_append]
          exact H2.out
        case measure => simp [intOf]; omega
    · obtain rfl : k = L.length := by omega
      go_wp2
      go_ret
      have e : M = idxs p L := by rw [HM.out, List.take_length]
      rw [e] at H0 ⊢
      exact ⟨B, cb, rfl, H0.out, hb⟩
end Go.Proofs.Ytfbafdnjjfmhjaa
