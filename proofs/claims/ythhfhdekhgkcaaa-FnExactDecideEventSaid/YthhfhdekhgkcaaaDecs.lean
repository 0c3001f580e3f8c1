/-
  Lists of decisions in memory; DecideLog on both sides.
-/
import Derived.Test.YthhfhdekhgkcaaaDecide
import Derived.Test.YthhfhdekhgkcaaaLog
namespace Go.Proofs.Ythhfhdekhgkcaaa
open Go.RowKit

structure Raw where
  r : Int
  A : Option Addr
  n : Nat
  c : Nat
abbrev Dec := Int × List ByteArray
def Raw.cells (x : Raw) : List Value := [.int .i64 x.r, .slice x.A x.n x.c]
theorem Raw.len (x : Raw) : x.cells.length = 2 := rfl
def zflat (Z : List (Raw × Dec)) : List Value := Z.flatMap fun z => z.1.cells
theorem zlen (z : Raw × Dec) : z.1.cells.length = 2 := rfl
def chainOwn (w : World) (base : Nat) (z : Raw × Dec) : Prop := z.1.r = z.2.1 ∧ z.1.n = z.2.2.length ∧ w.ownsRow base 9 1 (.slice z.1.A z.1.n z.1.c) z.1.n (Texts.flat z.2.2)
def apartB (a b : Option Nat) : Prop := a = none ∨ a ≠ b
theorem apartB.symm {a b : Option Nat} (h : apartB a b) : apartB b a := by
  unfold apartB at *
  rcases h with rfl | h
  · cases b with
    | none => exact .inl rfl
    | some b => right; simp
  · exact .inr (Ne.symm h)
def blk (z : Raw × Dec) : Option Nat := z.1.A.map (·.block)
structure Chains (w : World) (base : Nat) (Z : List (Raw × Dec)) (D : List Dec) : Prop where
  map : Z.map (·.2) = D
  own : ∀ z ∈ Z, chainOwn w base z
  ap : (Z.map blk).Pairwise apartB
def DecsOwn (w : World) (base : Nat) (A : Option Addr) (c : Nat) (D : List Dec) : Prop :=
  ∃ Z, Chains w base Z D ∧ w.ownsRow base 53 2 (.slice A D.length c) D.length (zflat Z)
theorem Decs.info : (Try.prog.info? 53).map (fun i => (i.zero, i.size, i.bytes)) = some (some (.agg #[.int .i64 0, .slice none 0 0]), 2, 32) := by kernel_rfl
theorem types_ne : ¬ (9 : TypeId) = 53 := by decide

theorem own_types {w : World} {b1 b2 : Nat} {e1 e2 : TypeId} {s1 s2 n1 n2 c1 c2 : Nat} {A1 A2 : Option Addr} {x1 x2 : List Value} (he : ¬ e1 = e2) (h1 : w.ownsRow b1 e1 s1 (.slice A1 n1 c1) n1 x1) (h2 : w.ownsRow b2 e2 s2 (.slice A2 n2 c2) n2 x2) :
    A1.map (·.block) = none ∨ A1.map (·.block) ≠ A2.map (·.block) := by
  rcases h1.2 with ⟨h, _⟩ | ⟨g1, cap1, cur1, h, _, hh1, _⟩
  · injection h with h; subst h; exact .inl rfl
  · injection h with h; subst h
    rcases h2.2 with ⟨h, _⟩ | ⟨g2, cap2, cur2, h, _, hh2, _⟩
    · injection h with h; subst h; right; simp
    · injection h with h; subst h
      right
      intro e
      simp only [Option.map_some, Option.some.injEq] at e
      subst e
      rw [hh1] at hh2
      injection hh2 with hh2
      injection hh2 with _ hh2 _
      exact he hh2
theorem chainOwn.below {w w' : World} {base : Nat} {z : Raw × Dec} (h : chainOwn w base z) (hb : Below w.heap.size w w') : chainOwn w' base z := ⟨h.1, h.2.1, own_below h.2.2 hb⟩
theorem chainOwn.base {w : World} {base b : Nat} {z : Raw × Dec} (h : chainOwn w base z) (hb : b ≤ base) : chainOwn w b z := ⟨h.1, h.2.1, own_base h.2.2 hb⟩
theorem chainOwn.kept {w w' : World} {base b2 : Nat} {z : Raw × Dec} {A : Option Addr} {n c : Nat} {xs : List Value} (h : chainOwn w base z) (ho : w.ownsRow b2 53 2 (.slice A n c) n xs) (hg : w.grownBy w' (A.map (·.block))) : chainOwn w' base z :=
  ⟨h.1, h.2.1, own_kept h.2.2 hg (own_types types_ne h.2.2 ho)⟩
theorem Chains.below {w w' : World} {base : Nat} {Z : List (Raw × Dec)} {D : List Dec} (h : Chains w base Z D) (hb : Below w.heap.size w w') : Chains w' base Z D := ⟨h.map, fun z hz => (h.own z hz).below hb, h.ap⟩
theorem Chains.base {w : World} {base b : Nat} {Z : List (Raw × Dec)} {D : List Dec} (h : Chains w base Z D) (hb : b ≤ base) : Chains w b Z D := ⟨h.map, fun z hz => (h.own z hz).base hb, h.ap⟩
theorem Chains.len {w : World} {base : Nat} {Z : List (Raw × Dec)} {D : List Dec} (h : Chains w base Z D) : Z.length = D.length := by rw [← h.map, List.length_map]
theorem Chains.kept {w w' : World} {base b2 : Nat} {Z : List (Raw × Dec)} {D : List Dec} {A : Option Addr} {n c : Nat} {xs : List Value} (h : Chains w base Z D) (ho : w.ownsRow b2 53 2 (.slice A n c) n xs) (hg : w.grownBy w' (A.map (·.block))) : Chains w' base Z D :=
  ⟨h.map, fun z hz => (h.own z hz).kept ho hg, h.ap⟩
/-- One more, made later. -/
theorem Chains.more {w w' : World} {base b2 : Nat} {Z : List (Raw × Dec)} {D : List Dec} {z : Raw × Dec} (h : Chains w base Z D) (hb : Below w.heap.size w w') (hz : chainOwn w' b2 z) (h2 : w.heap.size ≤ b2) (h3 : base ≤ b2) : Chains w' base (Z ++ [z]) (D ++ [z.2]) := by
  refine ⟨by rw [List.map_append, h.map]; rfl, fun y hy => ?_, ?_⟩
  · rw [List.mem_append, List.mem_singleton] at hy
    rcases hy with hy | rfl
    · exact (h.own y hy).below hb
    · exact hz.base h3
  · rw [List.map_append, List.pairwise_append]
    refine ⟨h.ap, List.pairwise_singleton _ _, fun a ha b hb' => ?_⟩
    rw [List.map_singleton, List.mem_singleton] at hb'
    subst hb'
    obtain ⟨y, hy, rfl⟩ := List.mem_map.1 ha
    exact (own_apart (h.own y hy).2.2 hz.2.2 h2).1
theorem Chains.nil {w : World} {base : Nat} : Chains w base [] [] := ⟨rfl, fun _ h => by simp at h, List.Pairwise.nil⟩

/-- Reading a list of decisions. -/
def DecsAt (w : World) (A : Option Addr) (D : List Dec) : Prop :=
  ∀ k (hk : k < D.length), ∃ b off A' c', A = some ⟨b, off, none⟩ ∧ b < w.heap.size ∧ w.cell? ⟨b, off + k * 2, none⟩ = some (.int .i64 D[k].1) ∧ w.cell? ⟨b, off + k * 2 + 1, none⟩ = some (.slice A' D[k].2.length c') ∧ Texts.At w A' D[k].2
theorem DecsAt.below {w w' : World} {A : Option Addr} {D : List Dec} (h : DecsAt w A D) (hb : Below w.heap.size w w') : DecsAt w' A D := fun k hk => by
  obtain ⟨b, off, A', c', e, hlt, h1, h2, h3⟩ := h k hk
  exact ⟨b, off, A', c', e, Nat.lt_of_lt_of_le hlt hb.size, (hb.cell hlt).trans h1, (hb.cell hlt).trans h2, h3.below hb⟩
theorem zget {Z : List (Raw × Dec)} {k : Nat} (hk : k < Z.length) (j : Nat) (hj : j < 2) : (zflat Z)[k * 2 + j]? = Z[k].1.cells[j]? := flat_get (fun z : Raw × Dec => z.1.cells) 2 zlen Z k j hk hj
theorem DecsOwn.at_ {w : World} {base : Nat} {A : Option Addr} {c : Nat} {D : List Dec} (h : DecsOwn w base A c D) : DecsAt w A D := by
  obtain ⟨Z, hz, ho⟩ := h
  intro k hk
  have hR : Reads w 2 A D.length (zflat Z) := Reads.of_own ho
  have hl := hz.len
  have hkz : k < Z.length := by omega
  obtain ⟨b, off, e, hlt, hc⟩ := hR.2 (by omega)
  have h0 := hc (k * 2 + 0) _ ((zget hkz 0 (by omega)).trans rfl)
  have h1 := hc (k * 2 + 1) _ ((zget hkz 1 (by omega)).trans rfl)
  have hd : Z[k].2 = D[k] := by
    have := hz.map
    subst this
    simp
  obtain ⟨o1, o2, o3⟩ := hz.own _ (List.getElem_mem hkz)
  rw [hd] at o1 o2 o3
  rw [o1] at h0
  rw [o2] at h1 o3
  exact ⟨b, off, _, _, e, hlt, by simpa using h0, by simpa [Nat.add_assoc] using h1, Texts.At.of_own o3⟩

def decOf (L : List Clause) (e : Event) : Dec := (chainRes L e, chainCodes L e)
def decsR (L : List Clause) (E : List Event) : List Dec × Int := if isRulebook L && isLog E then (E.map (decOf L), 0) else ([], 1)
def DecsMadeC (w : World) (D : List Dec) (code : Int) (e : Ending) (w' : World) : Prop :=
  ∃ A c, e = .returned (.tuple #[.slice A D.length c, .int .i64 code]) ∧ DecsOwn w' w.heap.size A c D ∧ Below w.heap.size w w'
def DecsMade (w : World) (D : List Dec) (e : Ending) (w' : World) : Prop :=
  ∃ A c, e = .returned (.slice A D.length c) ∧ DecsOwn w' w.heap.size A c D ∧ Below w.heap.size w w'
theorem DecsOwn.nil {w : World} {base : Nat} : DecsOwn w base none 0 [] := ⟨[], Chains.nil, World.ownsRow_nil _ _ _ _⟩
theorem zflat_app (Z : List (Raw × Dec)) (z : Raw × Dec) : zflat (Z ++ [z]) = zflat Z ++ z.1.cells := by simp [zflat]

theorem lit2 (w : World) (u v : Value) (T : TypeId) : ∀ j x, [u, v][j]? = some x → (w.alloc (.cells #[u, v] T)).cell? ((⟨w.heap.size, 0, none⟩ : Addr).add j) = some x := by
  intro j x hx
  rw [Go.WideShapes.add_plain, Nat.zero_add]
  exact (World.cell?_alloc_mark _ _ _ _ _).trans (by simpa using hx)

set_option maxHeartbeats 4000000 in
set_option maxRecDepth 100000 in
theorem decided_impl (b off cap : Nat) (L : List Clause) (A2 : Option Addr) (cap2 : Nat) (E : List Event) (w : World) (hL : Clause.At w (some ⟨b, off, none⟩) L) (hE : Event.At w A2 E) (R : Rule L) (hcap : L.length ≤ cap) (hcm : cap ≤ 9223372036854775807) (h15 : E.length ≤ 15) :
    Calls Try.prog 95 #[.slice (some ⟨b, off, none⟩) L.length cap, .slice A2 E.length cap2] w (DecsMade w (E.map (decOf L))) := by
  have HL := Lib.hid hL.at_
  have HA := Lib.hid hL
  have HE := Lib.hid hE.at_
  have HEA := Lib.hid hE
  obtain ⟨i0, hi, hz0, hz1, hz2⟩ := info_parts Decs.info
  have HR := Lib.hid R
  have HO := Lib.hid (own_new w w.heap.size 53 2 (Nat.le_refl _))
  have HB0 := Lib.hid ((Below.refl w.heap.size w).alloc (Nat.le_refl _) (.cells #[] 53))
  clear hL hE R
  go_enter Try.func95, Try.ntmps95
  go_wp2
  go_loopw [5, 11] (fun o i wr => ∃ (k : Nat) (B : Option Addr) (cb : Nat), k ≤ E.length ∧ i = .int .i64 k ∧ o = .slice B k cb ∧ Hid (∃ Z, Chains wr w.heap.size Z ((E.take k).map (decOf L)) ∧ wr.ownsRow w.heap.size 53 2 (.slice B k cb) k (zflat Z)) ∧ Hid (Below w.heap.size w wr)) (fun _ i _ => E.length - (intOf i).toNat)
  case atStart => exact ⟨0, _, _, Nat.zero_le _, rfl, rfl, Lib.hid ⟨[], Chains.nil, HO.out⟩, HB0⟩
  case round =>
    clear HO HB0
    obtain ⟨k, B, cb, hk, rfl, rfl, HZ, HB⟩ := hrel
    by_cases hlt : k < E.length
    · obtain ⟨be, offe, hEA, hlbe, c0, c1, c2, c3, c4, c5, c6⟩ := HE.out k hlt
      subst hEA
      replace c0 := (HB.out.cell hlbe).trans c0
      replace c1 := (HB.out.cell hlbe).trans c1
      replace c2 := (HB.out.cell hlbe).trans c2
      replace c3 := (HB.out.cell hlbe).trans c3
      replace c4 := (HB.out.cell hlbe).trans c4
      replace c5 := (HB.out.cell hlbe).trans c5
      replace c6 := (HB.out.cell hlbe).trans c6
      have B1 : Below wr.heap.size wr (wr.alloc (.cells #[.int .i64 E[k].day, .int .i64 E[k].kind, .string E[k].interest, .int .i64 E[k].amount, .bool E[k].peril, .bool E[k].voluntary, .bool E[k].reasonable] 34)) := (Below.refl _ _).alloc (Nat.le_refl _) _
      have d0 := made_cell wr #[.int .i64 E[k].day, .int .i64 E[k].kind, .string E[k].interest, .int .i64 E[k].amount, .bool E[k].peril, .bool E[k].voluntary, .bool E[k].reasonable] 34 0 (.int .i64 E[k].day) rfl
      have d1 := made_cell wr #[.int .i64 E[k].day, .int .i64 E[k].kind, .string E[k].interest, .int .i64 E[k].amount, .bool E[k].peril, .bool E[k].voluntary, .bool E[k].reasonable] 34 1 (.int .i64 E[k].kind) rfl
      have d2 := made_cell wr #[.int .i64 E[k].day, .int .i64 E[k].kind, .string E[k].interest, .int .i64 E[k].amount, .bool E[k].peril, .bool E[k].voluntary, .bool E[k].reasonable] 34 2 (.string E[k].interest) rfl
      have d3 := made_cell wr #[.int .i64 E[k].day, .int .i64 E[k].kind, .string E[k].interest, .int .i64 E[k].amount, .bool E[k].peril, .bool E[k].voluntary, .bool E[k].reasonable] 34 3 (.int .i64 E[k].amount) rfl
      have d4 := made_cell wr #[.int .i64 E[k].day, .int .i64 E[k].kind, .string E[k].interest, .int .i64 E[k].amount, .bool E[k].peril, .bool E[k].voluntary, .bool E[k].reasonable] 34 4 (.bool E[k].peril) rfl
      have d5 := made_cell wr #[.int .i64 E[k].day, .int .i64 E[k].kind, .string E[k].interest, .int .i64 E[k].amount, .bool E[k].peril, .bool E[k].voluntary, .bool E[k].reasonable] 34 5 (.bool E[k].voluntary) rfl
      have d6 := made_cell wr #[.int .i64 E[k].day, .int .i64 E[k].kind, .string E[k].interest, .int .i64 E[k].amount, .bool E[k].peril, .bool E[k].voluntary, .bool E[k].reasonable] 34 6 (.bool E[k].reasonable) rfl
      have C1 := decide_impl b off cap L E[k] _ (HA.out.below (HB.out.trans (B1.mono HB.out.size))) HR.out hcap hcm
      have HC1 := Lib.hid C1
      clear C1 hlbe
      have hsz0 := HB.out.size
      go_wp2_with fail
      refine HC1.out.mono ?_
      rintro e' w1 ⟨Ak, ck, rfl, hok, hbk⟩
      have hb1 : Below wr.heap.size wr w1 := B1.trans (hbk.mono B1.size)
      have HB1 := Lib.hid (HB.out.trans (hb1.mono HB.out.size))
      obtain ⟨Z, hZ, hown⟩ := HZ.out
      have hok2 : chainOwn w1 wr.heap.size (⟨chainRes L E[k], Ak, (chainCodes L E[k]).length, ck⟩, decOf L E[k]) := ⟨rfl, rfl, own_base hok (by simp)⟩
      have hM := Chains.more hZ hb1 hok2 (Nat.le_refl _) hsz0
      have hown1 := own_below hown hb1
      have hA1 : Below w1.heap.size w1 (w1.alloc (.cells #[.int .i64 (chainRes L E[k]), .slice Ak (chainCodes L E[k]).length ck] 53)) := (Below.refl _ _).alloc (Nat.le_refl _) _
      have HM := Lib.hid (hM.below hA1)
      have hown2 := own_below hown1 hA1
      have H1 := Lib.hid hown2
      have hs1 := HB1.out.size
      have HLI := Lib.hid (lit2 w1 (.int .i64 (chainRes L E[k])) (.slice Ak (chainCodes L E[k]).length ck) 53)
      have HT : Hid ((E.take (k + 1)).map (decOf L) = (E.take k).map (decOf L) ++ [decOf L E[k]]) := by
        unfold Hid; rw [List.take_succ_eq_append_getElem hlt, List.map_append]; rfl
      clear hok hok2 hM hown hown1 hA1 hZ hbk hb1 HZ c0 c1 c2 c3 c4 c5 c6 B1 d0 d1 d2 d3 d4 d5 d6
      go_wp2_with (at_builtin; refine wpList_append_own _ rfl _ _ 62 rfl (w.heap.size) 53 i0 _ 2 32 Try.underlying62 hi hz0 hz1 hz2 rfl (by decide) _ _ _ rfl H1.out ⟨w1.heap.size, 0, none⟩ 1 1 [.int .i64 (chainRes L E[k]), .slice Ak (chainCodes L E[k]).length ck] rfl rfl HLI.out ?c2 ?c3 ?c4 ?c5 ?_)
      case c2 => intro u hu; simp at hu; rcases hu with rfl | rfl <;> rfl
      case c3 => unfold maxLen; omega
      case c4 => omega
      case c5 => simp; omega
      intro v' w2 hown' hgr hnil
      obtain ⟨A2, cb2, rfl, _⟩ := own_shape hown'
      have HB2 := Lib.hid ((HB1.out.alloc HB1.out.size (.cells #[.int .i64 (chainRes L E[k]), .slice Ak (chainCodes L E[k]).length ck] 53)).grown hgr (by simp; omega) (fun g hg => (H1.out.lt g hg).1))
      have HM2 := Lib.hid (HM.out.kept H1.out (by rw [← ownBlock_map]; exact hgr))
      have H2 := Lib.hid hown'
      clear hown' hgr hnil hs1 hown2 HM H1 HLI
      go_wp2
      go_roundw
      case rel =>
        refine ⟨k + 1, A2, cb2, by omega, by go_num, rfl, ?_, HB2⟩
        refine Lib.hid ⟨_, by rw [HT.out]; exact HM2.out, ?_⟩
        rw [zflat_app]
        exact H2.out
      case measure => simp [intOf]; omega
    · obtain rfl : k = E.length := by omega
      go_wp2
      go_ret
      obtain ⟨Z, hZ, hown⟩ := HZ.out
      rw [List.take_length] at hZ
      refine ⟨B, cb, by rw [List.length_map]; rfl, ⟨Z, hZ, by rw [List.length_map]; exact hown⟩, HB.out⟩

set_option maxHeartbeats 4000000 in
set_option maxRecDepth 100000 in
theorem DecideLog_spec (A : Option Addr) (cap : Nat) (L : List Clause) (A2 : Option Addr) (cap2 : Nat) (E : List Event) (w : World) (hL : Clause.At w A L) (hE : Event.At w A2 E) (hs : ∀ s ∈ L, s.tiny) (hs2 : ∀ s ∈ E, s.tiny) (hlen : L.length ≤ 9223372036854775807) (hlen2 : E.length ≤ 9223372036854775807) :
    Calls Try.prog 43 #[.slice A L.length cap, .slice A2 E.length cap2] w (DecsMadeC w (decsR L E).1 (decsR L E).2) := by
  have HL := Lib.hid hL.at_
  have HA := Lib.hid hL
  have HE := Lib.hid hE.at_
  have HEA := Lib.hid hE
  obtain ⟨i0, hi, hz0, hz1, hz2⟩ := info_parts Decs.info
  have HX := isRulebook_spec A cap L w hL hs hlen
  cases hv : isRulebook L
  · have hq : decsR L E = ([], 1) := by rw [decsR, hv]; rfl
    rw [hv] at HX
    have HX2 := Lib.hid HX
    rw [hq]
    clear hq hv HX hL hE
    go_enter Try.func43, Try.ntmps43
    go_wp2_with fail
    refine HX2.out.mono ?_
    rintro e w1 ⟨rfl, hb⟩
    go_wp2
    go_ret2
    exact ⟨none, 0, rfl, DecsOwn.nil, hb⟩
  rw [hv] at HX
  have HX2 := Lib.hid HX
  cases hv2 : isLog E
  · have hq : decsR L E = ([], 1) := by rw [decsR, hv, hv2]; rfl
    rw [hq]
    clear hq hv HX hL hE
    go_enter Try.func43, Try.ntmps43
    go_wp2_with fail
    refine HX2.out.mono ?_
    rintro e w1 ⟨rfl, hb⟩
    go_wp2_with fail
    refine (calls_b hv2 (isLog_spec A2 cap2 E w1 (HEA.out.below hb) hs2 hlen2)).mono ?_
    rintro e w2 ⟨rfl, hb2⟩
    have HB2 := Lib.hid (hb.trans (hb2.mono hb.size))
    clear hb hb2
    go_wp2
    go_ret2
    exact ⟨none, 0, rfl, DecsOwn.nil, HB2.out⟩
  have hq : decsR L E = (E.map (decOf L), 0) := by rw [decsR, hv, hv2]; rfl
  have HR := Lib.hid (rule_of hv)
  have h15 := log_len hv2
  rw [hq]
  clear hq hv HX hL hE
  go_enter Try.func43, Try.ntmps43
  go_wp2_with fail
  refine HX2.out.mono ?_
  rintro e w1 ⟨rfl, hb⟩
  go_wp2_with fail
  refine (calls_b hv2 (isLog_spec A2 cap2 E w1 (HEA.out.below hb) hs2 hlen2)).mono ?_
  rintro e w2 ⟨rfl, hb2⟩
  have HB2 := Lib.hid (hb.trans (hb2.mono hb.size))
  clear hb hb2
  have HO := Lib.hid (own_new w2 w.heap.size 53 2 HB2.out.size)
  have HB0 := Lib.hid (HB2.out.alloc HB2.out.size (.cells #[] 53))
  go_wp2
  go_loopw [6, 7] (fun o i wr => ∃ (k : Nat) (B : Option Addr) (cb : Nat), k ≤ E.length ∧ i = .int .i64 k ∧ o = .slice B k cb ∧ Hid (∃ Z, Chains wr w.heap.size Z ((E.take k).map (decOf L)) ∧ wr.ownsRow w.heap.size 53 2 (.slice B k cb) k (zflat Z)) ∧ Hid (Below w.heap.size w wr)) (fun _ i _ => E.length - (intOf i).toNat)
  case atStart => exact ⟨0, _, _, Nat.zero_le _, rfl, rfl, Lib.hid ⟨[], Chains.nil, HO.out⟩, HB0⟩
  case round =>
    clear HO HB0
    obtain ⟨k, B, cb, hk, rfl, rfl, HZ, HB⟩ := hrel
    by_cases hlt : k < E.length
    · obtain ⟨be, offe, hEA, hlbe, c0, c1, c2, c3, c4, c5, c6⟩ := HE.out k hlt
      subst hEA
      replace c0 := (HB.out.cell hlbe).trans c0
      replace c1 := (HB.out.cell hlbe).trans c1
      replace c2 := (HB.out.cell hlbe).trans c2
      replace c3 := (HB.out.cell hlbe).trans c3
      replace c4 := (HB.out.cell hlbe).trans c4
      replace c5 := (HB.out.cell hlbe).trans c5
      replace c6 := (HB.out.cell hlbe).trans c6
      have C1 := decide_spec A cap L E[k] _ (HA.out.below (HB.out.trans ((Below.refl wr.heap.size wr).mono HB.out.size))) HR.out
      have HC1 := Lib.hid C1
      clear C1 hlbe
      have hsz0 := HB.out.size
      go_wp2_with fail
      refine HC1.out.mono ?_
      rintro e' w1 ⟨Ak, ck, rfl, hok, hbk⟩
      have hb1 : Below wr.heap.size wr w1 := hbk
      have HB1 := Lib.hid (HB.out.trans (hb1.mono HB.out.size))
      obtain ⟨Z, hZ, hown⟩ := HZ.out
      have hok2 : chainOwn w1 wr.heap.size (⟨chainRes L E[k], Ak, (chainCodes L E[k]).length, ck⟩, decOf L E[k]) := ⟨rfl, rfl, own_base hok (by simp)⟩
      have hM := Chains.more hZ hb1 hok2 (Nat.le_refl _) hsz0
      have hown1 := own_below hown hb1
      have hA1 : Below w1.heap.size w1 (w1.alloc (.cells #[.int .i64 (chainRes L E[k]), .slice Ak (chainCodes L E[k]).length ck] 53)) := (Below.refl _ _).alloc (Nat.le_refl _) _
      have HM := Lib.hid (hM.below hA1)
      have hown2 := own_below hown1 hA1
      have H1 := Lib.hid hown2
      have hs1 := HB1.out.size
      have HLI := Lib.hid (lit2 w1 (.int .i64 (chainRes L E[k])) (.slice Ak (chainCodes L E[k]).length ck) 53)
      have HT : Hid ((E.take (k + 1)).map (decOf L) = (E.take k).map (decOf L) ++ [decOf L E[k]]) := by
        unfold Hid; rw [List.take_succ_eq_append_getElem hlt, List.map_append]; rfl
      clear hok hok2 hM hown hown1 hA1 hZ hbk hb1 HZ c0 c1 c2 c3 c4 c5 c6 
      go_wp2_with (at_builtin; refine wpList_append_own _ rfl _ _ 62 rfl (w.heap.size) 53 i0 _ 2 32 Try.underlying62 hi hz0 hz1 hz2 rfl (by decide) _ _ _ rfl H1.out ⟨w1.heap.size, 0, none⟩ 1 1 [.int .i64 (chainRes L E[k]), .slice Ak (chainCodes L E[k]).length ck] rfl rfl HLI.out ?c2 ?c3 ?c4 ?c5 ?_)
      case c2 => intro u hu; simp at hu; rcases hu with rfl | rfl <;> rfl
      case c3 => unfold maxLen; omega
      case c4 => omega
      case c5 => simp; omega
      intro v' w2 hown' hgr hnil
      obtain ⟨A2, cb2, rfl, _⟩ := own_shape hown'
      have HB2 := Lib.hid ((HB1.out.alloc HB1.out.size (.cells #[.int .i64 (chainRes L E[k]), .slice Ak (chainCodes L E[k]).length ck] 53)).grown hgr (by simp; omega) (fun g hg => (H1.out.lt g hg).1))
      have HM2 := Lib.hid (HM.out.kept H1.out (by rw [← ownBlock_map]; exact hgr))
      have H2 := Lib.hid hown'
      clear hown' hgr hnil hs1 hown2 HM H1 HLI
      go_wp2
      go_roundw
      case rel =>
        refine ⟨k + 1, A2, cb2, by omega, by go_num, rfl, ?_, HB2⟩
        refine Lib.hid ⟨_, by rw [HT.out]; exact HM2.out, ?_⟩
        rw [zflat_app]
        exact H2.out
      case measure => simp [intOf]; omega
    · obtain rfl : k = E.length := by omega
      go_wp2
      go_ret2
      obtain ⟨Z, hZ, hown⟩ := HZ.out
      rw [List.take_length] at hZ
      refine ⟨B, cb, by rw [List.length_map]; rfl, ⟨Z, hZ, by rw [List.length_map]; exact hown⟩, HB.out⟩

set_option maxHeartbeats 4000000 in
set_option maxRecDepth 100000 in
theorem DecideLog_impl (b off cap : Nat) (L : List Clause) (A2 : Option Addr) (cap2 : Nat) (E : List Event) (w : World) (hL : Clause.At w (some ⟨b, off, none⟩) L) (hE : Event.At w A2 E) (hs : ∀ s ∈ L, s.tiny) (hs2 : ∀ s ∈ E, s.tiny) (hlen : L.length ≤ 9223372036854775807) (hlen2 : E.length ≤ 9223372036854775807) (hcap : L.length ≤ cap) (hcm : cap ≤ 9223372036854775807) :
    Calls Try.prog 45 #[.slice (some ⟨b, off, none⟩) L.length cap, .slice A2 E.length cap2] w (DecsMadeC w (decsR L E).1 (decsR L E).2) := by
  have HL := Lib.hid hL.at_
  have HA := Lib.hid hL
  have HE := Lib.hid hE.at_
  have HEA := Lib.hid hE
  obtain ⟨i0, hi, hz0, hz1, hz2⟩ := info_parts Decs.info
  have HX := isRulebook_impl (some ⟨b, off, none⟩) cap L w hL hs hlen
  cases hv : isRulebook L
  · have hq : decsR L E = ([], 1) := by rw [decsR, hv]; rfl
    rw [hv] at HX
    have HX2 := Lib.hid HX
    rw [hq]
    clear hq hv HX hL hE
    go_enter Try.func45, Try.ntmps45
    go_wp2_with fail
    refine HX2.out.mono ?_
    rintro e w1 ⟨rfl, hb⟩
    go_wp2
    go_ret2
    exact ⟨none, 0, rfl, DecsOwn.nil, hb⟩
  rw [hv] at HX
  have HX2 := Lib.hid HX
  cases hv2 : isLog E
  · have hq : decsR L E = ([], 1) := by rw [decsR, hv, hv2]; rfl
    rw [hq]
    clear hq hv HX hL hE
    go_enter Try.func45, Try.ntmps45
    go_wp2_with fail
    refine HX2.out.mono ?_
    rintro e w1 ⟨rfl, hb⟩
    go_wp2_with fail
    refine (calls_b hv2 (isLog_impl A2 cap2 E w1 (HEA.out.below hb) hs2 hlen2)).mono ?_
    rintro e w2 ⟨rfl, hb2⟩
    have HB2 := Lib.hid (hb.trans (hb2.mono hb.size))
    clear hb hb2
    go_wp2
    go_ret2
    exact ⟨none, 0, rfl, DecsOwn.nil, HB2.out⟩
  have hq : decsR L E = (E.map (decOf L), 0) := by rw [decsR, hv, hv2]; rfl
  have HR := Lib.hid (rule_of hv)
  have h15 := log_len hv2
  rw [hq]
  clear hq hv HX hL hE
  go_enter Try.func45, Try.ntmps45
  go_wp2_with fail
  refine HX2.out.mono ?_
  rintro e w1 ⟨rfl, hb⟩
  go_wp2_with fail
  refine (calls_b hv2 (isLog_impl A2 cap2 E w1 (HEA.out.below hb) hs2 hlen2)).mono ?_
  rintro e w2 ⟨rfl, hb2⟩
  have HB2 := Lib.hid (hb.trans (hb2.mono hb.size))
  clear hb hb2
  go_wp2_with fail
  refine (decided_impl b off cap L A2 cap2 E w2 (HA.out.below HB2.out) (HEA.out.below HB2.out) HR.out hcap hcm h15).mono ?_
  rintro e w3 ⟨B, c, rfl, ho, hb3⟩
  obtain ⟨Z, hZ, hown⟩ := ho
  have HZ : Hid (DecsOwn w3 w.heap.size B c (E.map (decOf L))) := ⟨Z, hZ.base HB2.out.size, own_base hown HB2.out.size⟩
  have HB3 := Lib.hid (HB2.out.trans (hb3.mono HB2.out.size))
  clear hZ hown hb3
  go_wp2
  go_ret2
  exact ⟨B, c, by rw [List.length_map]; rfl, HZ.out, HB3.out⟩
end Go.Proofs.Ythhfhdekhgkcaaa
