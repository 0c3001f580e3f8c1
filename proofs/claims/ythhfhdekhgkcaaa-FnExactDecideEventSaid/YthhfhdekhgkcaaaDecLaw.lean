/-
  The laws' own functions over decisions: equality, marks.
-/
import Derived.Test.YthhfhdekhgkcaaaDecs
namespace Go.Proofs.Ythhfhdekhgkcaaa
open Go.RowKit

def markD : Int → List Dec → List Dec
  | _, [] => []
  | m, d :: D => (m, Texts.marks (m + 1) d.2.length) :: markD (m + 1 + (d.2.length : Nat)) D
def markEnd : Int → List Dec → Int
  | m, [] => m
  | m, d :: D => markEnd (m + 1 + (d.2.length : Nat)) D
theorem markEnd_snoc (d : Dec) : ∀ (D : List Dec) (m : Int), markEnd m (D ++ [d]) = markEnd m D + 1 + (d.2.length : Nat)
  | [], _ => rfl
  | _ :: D, _ => markEnd_snoc d D _
theorem markD_snoc (d : Dec) : ∀ (D : List Dec) (m : Int), markD m (D ++ [d]) = markD m D ++ [(markEnd m D, Texts.marks (markEnd m D + 1) d.2.length)]
  | [], _ => rfl
  | _ :: D, _ => by
    show _ :: markD _ (D ++ [d]) = _ :: (markD _ D ++ _)
    rw [markD_snoc d D]; rfl
theorem markD_len : ∀ (D : List Dec) (m : Int), (markD m D).length = D.length
  | [], _ => rfl
  | _ :: D, _ => by simp [markD, markD_len D]
theorem markEnd_bd : ∀ (D : List Dec) (m : Int), (∀ d ∈ D, d.2.length ≤ 12) → m ≤ markEnd m D ∧ markEnd m D ≤ m + 13 * D.length
  | [], m, _ => by simp [markEnd]
  | e :: D, m, h => by
    have h1 := markEnd_bd D (m + 1 + (e.2.length : Nat)) (fun d hd => h d (List.mem_cons_of_mem _ hd))
    have h2 := h e (List.mem_cons_self ..)
    simp only [markEnd, List.length_cons]
    omega
theorem markD_at : ∀ (D : List Dec) (m : Int) (k : Nat) (h : k < D.length), (markD m D)[k]? = some (markEnd m (D.take k), Texts.marks (markEnd m (D.take k) + 1) D[k].2.length)
  | [], _, _, h => by simp at h
  | _ :: _, _, 0, _ => rfl
  | e :: D, m, k + 1, h => by
    have := markD_at D (m + 1 + (e.2.length : Nat)) k (by simpa using h)
    simpa [markD, markEnd] using this
theorem markEnd_take {D : List Dec} (m : Int) {k : Nat} (h : k < D.length) : markEnd m (D.take (k + 1)) = markEnd m (D.take k) + 1 + (D[k].2.length : Nat) := by
  rw [List.take_succ_eq_append_getElem h, markEnd_snoc]
/-- the list with its first k decisions marked -/
def markTo (m : Int) (D : List Dec) (k : Nat) : List Dec := markD m (D.take k) ++ D.drop k
theorem markTo_len (m : Int) {D : List Dec} {k : Nat} (h : k ≤ D.length) : (markTo m D k).length = D.length := by
  unfold markTo; rw [List.length_append, markD_len]; simp; omega
theorem markTo_succ (m : Int) {D : List Dec} {k : Nat} (h : k < D.length) : markTo m D (k + 1) = (markTo m D k).set k (markEnd m (D.take k), Texts.marks (markEnd m (D.take k) + 1) D[k].2.length) := by
  unfold markTo
  have hl : (markD m (D.take k)).length = k := by rw [markD_len, List.length_take]; omega
  rw [List.take_succ_eq_append_getElem h, markD_snoc, List.set_append_right _ _ (by omega), hl, Nat.sub_self, List.drop_eq_getElem_cons h, List.set_cons_zero, List.append_assoc]; rfl
theorem markTo_get (m : Int) {D : List Dec} {k : Nat} (h : k < D.length) : (markTo m D k)[k]'(by rw [markTo_len m (Nat.le_of_lt h)]; exact h) = D[k] := by
  have hl : (markD m (D.take k)).length = k := by rw [markD_len, List.length_take]; omega
  unfold markTo
  rw [List.getElem_append_right (by omega)]
  simp [hl]

theorem Chains.mark {w w1 w2 : World} {base n c k : Nat} {A : Option Addr} {Z : List (Raw × Dec)} {D : List Dec} {xs ys : List Value} (h : Chains w base Z D) (hk : k < Z.length)
    (hr : w.ownsRow base 53 2 (.slice A n c) n xs) (hg1 : w.grownBy w1 (A.map (·.block))) (hr1 : w1.ownsRow base 53 2 (.slice A n c) n ys)
    (e : Int) (M' : List ByteArray) (hM : M'.length = Z[k].2.2.length)
    (ho2 : w2.ownsRow base 9 1 (.slice Z[k].1.A Z[k].1.n Z[k].1.c) Z[k].1.n (Texts.flat M')) (hg2 : w1.grownBy w2 (Z[k].1.A.map (·.block))) :
    Chains w2 base (Z.set k (⟨e, Z[k].1.A, Z[k].1.n, Z[k].1.c⟩, (e, M'))) (D.set k (e, M')) ∧ w2.ownsRow base 53 2 (.slice A n c) n ys := by
  have hck := (h.own _ (List.getElem_mem hk)).kept hr hg1
  refine ⟨⟨by rw [List.map_set, h.map], fun z hz => ?_, ?_⟩, own_kept hr1 hg2 (own_types (fun h => types_ne h.symm) hr1 hck.2.2)⟩
  · obtain ⟨j, hj, rfl⟩ := List.mem_iff_getElem.1 hz
    rw [List.length_set] at hj
    by_cases hjk : k = j
    · subst hjk
      rw [List.getElem_set_self]
      refine ⟨rfl, ?_, ho2⟩
      rw [hM]
      exact (h.own _ (List.getElem_mem hk)).2.1
    · rw [List.getElem_set_ne hjk]
      have h1 := (h.own _ (List.getElem_mem hj)).kept hr hg1
      have hp := List.pairwise_iff_getElem.1 h.ap
      have hap : apartB (blk Z[j]) (blk Z[k]) := by
        rcases Nat.lt_or_gt_of_ne hjk with hlt | hlt
        · have := hp k j (by rw [List.length_map]; exact hk) (by rw [List.length_map]; exact hj) hlt
          simp only [List.getElem_map] at this
          exact this.symm
        · have := hp j k (by rw [List.length_map]; exact hj) (by rw [List.length_map]; exact hk) hlt
          simpa only [List.getElem_map] using this
      exact ⟨h1.1, h1.2.1, own_kept h1.2.2 hg2 hap⟩
  · rw [List.map_set]
    have e1 : blk ((⟨e, Z[k].1.A, Z[k].1.n, Z[k].1.c⟩, (e, M')) : Raw × Dec) = (Z.map blk)[k]'(by rw [List.length_map]; exact hk) := by rw [List.getElem_map]; rfl
    rw [e1, List.set_getElem_self]
    exact h.ap

set_option maxHeartbeats 1000000 in
set_option maxRecDepth 100000 in
theorem eqDecision_same (r : Int) (A B : Option Addr) (ca cb : Nat) (M : List ByteArray) (w : World) (hA : Texts.At w A M) (hB : Texts.At w B M) (hlen : M.length ≤ 9223372036854775807) :
    Calls Try.prog 38 #[.agg #[.int .i64 r, .slice A M.length ca], .agg #[.int .i64 r, .slice B M.length cb]] w fun e w' => e = .returned (.bool true) ∧ Below w.heap.size w w' := by
  have B1 : Below w.heap.size w ((w.alloc (.cells #[.int .i64 r, .slice A M.length ca] 53)).alloc (.cells #[.int .i64 r, .slice B M.length cb] 53)) := ((Below.refl _ _).alloc (Nat.le_refl _) _).alloc (by simp) _
  have H1 := eqStringS_same A B ca cb M _ (hA.below B1) (hB.below B1) hlen
  have HH := Lib.hid H1
  have HB := Lib.hid B1
  clear H1 B1 hA hB
  go_enter Try.func38, Try.ntmps38
  go_wp2_with fail
  refine HH.out.mono ?_
  rintro e w1 ⟨rfl, hb⟩
  have HB2 := Lib.hid (HB.out.trans (hb.mono HB.out.size))
  clear hb
  go_wp2
  go_ret
  exact ⟨rfl, HB2.out⟩

set_option maxHeartbeats 2000000 in
set_option maxRecDepth 100000 in
theorem eqDecisionS_same (A B : Option Addr) (ca cb : Nat) (D : List Dec) (w : World) (hA : DecsAt w A D) (hB : DecsAt w B D) (hlen : D.length ≤ 9223372036854775807) (hD : ∀ d ∈ D, d.2.length ≤ 12) :
    Calls Try.prog 46 #[.slice A D.length ca, .slice B D.length cb] w fun e w' => e = .returned (.bool true) ∧ Below w.heap.size w w' := by
  have HA := Lib.hid hA
  have HB := Lib.hid hB
  have HD := Lib.hid hD
  clear hA hB hD
  go_enter Try.func46, Try.ntmps46
  go_wp2
  go_loopw [5] (fun i wr => ∃ k : Nat, k ≤ D.length ∧ i = .int .i64 k ∧ Below w.heap.size w wr) (fun i _ => D.length - (intOf i).toNat)
  case atStart => exact ⟨0, Nat.zero_le _, rfl, Below.refl _ _⟩
  case round =>
    obtain ⟨k, hk, rfl, hb⟩ := hrel
    by_cases hlt : k < D.length
    · obtain ⟨b, off, Ak, ak, rfl, hlb, c0, c1, hT⟩ := (HA.out.below hb) k hlt
      obtain ⟨b', off', Bk, bk, rfl, hlb', d0, d1, hU⟩ := (HB.out.below hb) k hlt
      replace c0 := fun x : BW wr => x.cell c0
      replace c1 := fun x : BW wr => x.cell c1
      replace d0 := fun x : BW wr => x.cell d0
      replace d1 := fun x : BW wr => x.cell d1
      have h12 := HD.out _ (List.getElem_mem hlt)
      have HT : Hid (∀ x : BW wr, Texts.At x.val Ak D[k].2) := fun x => hT.below x.2
      have HU : Hid (∀ x : BW wr, Texts.At x.val Bk D[k].2) := fun x => hU.below x.2
      clear hT hU hlb hlb'
      go_wp2
      refine wp_region_bw (by kernel_rfl) (by kernel_rfl) ?_
      repeat (go_big_quiet_step ((go_at_call 38; exact bw_of _ (eqDecision_same D[k].1 Ak Bk ak bk D[k].2 _ (HT.out _) (HU.out _) (by omega)))))
      refine wpQuiet_nil ?_
      intro wq hx
      have hq := bw_out hx
      clear hx c0 d0 c1 d1
      go_wp2
      go_roundw
      case rel => exact ⟨k + 1, by omega, by go_num, hb.trans (hq.mono hb.size)⟩
      case measure => simp [intOf]; omega
    · go_wp2
      go_ret
      exact ⟨rfl, hb⟩

set_option maxHeartbeats 1000000 in
set_option maxRecDepth 100000 in
theorem markDecision_any (base : Nat) (r : Int) (A : Option Addr) (c : Nat) (M : List ByteArray) (m : Int) (w : World) (hM : w.ownsRow base 9 1 (.slice A M.length c) M.length (Texts.flat M)) (hlen : M.length ≤ 1048576) (h1 : 1 ≤ m) (h2 : m ≤ 10000000) :
    Calls Try.prog 40 #[.agg #[.int .i64 r, .slice A M.length c], .int .i64 m] w fun e w' => e = .returned (.int .i64 (m + (M.length : Nat))) ∧ w'.ownsRow base 9 1 (.slice A M.length c) M.length (Texts.flat (Texts.marks m M.length)) ∧ w.grownBy w' (A.map (·.block)) := by
  have B1 : Below w.heap.size w (w.alloc (.cells #[.int .i64 r, .slice A M.length c] 53)) := (Below.refl _ _).alloc (Nat.le_refl _) _
  have HH := Lib.hid (markStringS_any base A c M m _ (own_below hM B1) hlen h1 h2)
  have HB : Hid (w.grownBy (w.alloc (.cells #[.int .i64 r, .slice A M.length c] 53)) (A.map (·.block))) := grown_below B1
  clear B1 hM
  go_enter Try.func40, Try.ntmps40
  go_wp2_with fail
  refine HH.out.mono ?_
  rintro e w1 ⟨rfl, ho, hg⟩
  have HO := Lib.hid ho
  have HG := Lib.hid (grown_tr HB.out hg)
  clear ho hg
  go_wp2
  go_ret
  exact ⟨rfl, HO.out, HG.out⟩
set_option maxHeartbeats 1000000 in
set_option maxRecDepth 100000 in
theorem heldDecision_any (r : Int) (A : Option Addr) (c n : Nat) (m : Int) (w : World) (hM : Texts.At w A (Texts.marks m n)) (hlen : n ≤ 1048576) (h1 : 1 ≤ m) (h2 : m ≤ 10000000) :
    Calls Try.prog 41 #[.agg #[.int .i64 r, .slice A n c], .int .i64 m] w fun e w' => e = .returned (.int .i64 (m + (n : Nat))) ∧ Below w.heap.size w w' := by
  have B1 : Below w.heap.size w (w.alloc (.cells #[.int .i64 r, .slice A n c] 53)) := (Below.refl _ _).alloc (Nat.le_refl _) _
  have HH := Lib.hid (heldStringS_any A c n m _ (hM.below B1) hlen h1 h2)
  have HB := Lib.hid B1
  clear B1 hM
  go_enter Try.func41, Try.ntmps41
  go_wp2_with fail
  refine HH.out.mono ?_
  rintro e w1 ⟨rfl, hb⟩
  have HB2 := Lib.hid (HB.out.trans (hb.mono HB.out.size))
  clear hb
  go_wp2
  go_ret
  exact ⟨rfl, HB2.out⟩

set_option maxHeartbeats 4000000 in
set_option maxRecDepth 100000 in
theorem markDecisionS_any (base : Nat) (A : Option Addr) (c : Nat) (D : List Dec) (m : Int) (w : World) (hO : DecsOwn w base A c D) (hlen : D.length ≤ 15) (hD : ∀ d ∈ D, d.2.length ≤ 12) (h1 : 1 ≤ m) (h2 : m ≤ 10000) (hbase : base ≤ w.heap.size) :
    Calls Try.prog 49 #[.slice A D.length c, .int .i64 m] w fun e w' => e = .returned (.int .i64 (markEnd m D)) ∧ DecsOwn w' base A c (markD m D) ∧ Below base w w' := by
  have HO : Hid (∃ Z, Chains w base Z (markTo m D 0) ∧ w.ownsRow base 53 2 (.slice A D.length c) D.length (zflat Z)) := hO
  have HD := Lib.hid hD
  clear hO hD
  go_enter Try.func49, Try.ntmps49
  go_wp2
  go_loopw [1, 5] (fun q i wr => ∃ k : Nat, k ≤ D.length ∧ i = .int .i64 k ∧ q = .int .i64 (markEnd m (D.take k)) ∧ Hid (∃ Z, Chains wr base Z (markTo m D k) ∧ wr.ownsRow base 53 2 (.slice A D.length c) D.length (zflat Z)) ∧ Hid (Below base w wr)) (fun _ i _ => D.length - (intOf i).toNat)
  case atStart => exact ⟨0, Nat.zero_le _, rfl, rfl, HO, Lib.hid (Below.refl _ _)⟩
  case round =>
    clear HO
    obtain ⟨k, hk, rfl, rfl, HZ, HB⟩ := hrel
    by_cases hlt : k < D.length
    · obtain ⟨Z, hZ, hown⟩ := HZ.out
      have hkz : k < Z.length := by rw [hZ.len, markTo_len m hk]; exact hlt
      have hzk : Z[k].2 = D[k] := by
        rw [← markTo_get m hlt]
        simp only [← hZ.map, List.getElem_map]
      obtain ⟨o1, o2, o3⟩ := hZ.own _ (List.getElem_mem hkz)
      rw [hzk] at o1 o2 o3
      have hR : Reads wr 2 A D.length (zflat Z) := Reads.of_own hown
      obtain ⟨g0, off, hAg, hlg, hc⟩ := hR.2 (by omega)
      obtain ⟨A', c', hsh, hnc, _, hor⟩ := own_shape hown
      injection hsh with hsh1 hsh2 hsh3
      rcases hor with ⟨_, hl0, _⟩ | ⟨g, hg', hbg, _⟩
      · exfalso; omega
      rw [← hsh1] at hg'
      subst hg'
      injection hAg with hAg
      injection hAg with hAg1 hAg2
      subst hAg1; subst hAg2
      clear hsh1 hsh2 hsh3
      have r0 := hc (k * 2 + 0) _ ((zget hkz 0 (by omega)).trans rfl)
      have r1 := hc (k * 2 + 1) _ ((zget hkz 1 (by omega)).trans rfl)
      rw [o2] at r1 o3
      simp only [Nat.zero_add, Nat.add_zero] at r0 r1
      have fz := hown.frozenAt
      have hme := markEnd_bd (D.take k) m (fun d hd => HD.out d (List.mem_of_mem_take hd))
      rw [List.length_take, Nat.min_eq_left hk] at hme
      obtain ⟨e, he⟩ : ∃ e, e = markEnd m (D.take k) := ⟨_, rfl⟩
      have hdk := HD.out _ (List.getElem_mem hlt)
      have HNX : Hid (markEnd m (D.take (k + 1)) = e + 1 + (D[k].2.length : Nat)) := by unfold Hid; rw [markEnd_take m hlt, he]
      have HMS : Hid (markTo m D (k + 1) = (markTo m D k).set k (e, Texts.marks (e + 1) D[k].2.length)) := by unfold Hid; rw [markTo_succ m hlt, he]
      rw [← he] at hme ⊢
      have hs0 := hown.stored (k * 2) (.int .i64 e)
      have HS0 := Lib.hid hs0
      have hck := (hZ.own _ (List.getElem_mem hkz)).kept hown hs0.2
      have HW1 : Hid ((wr.setCell ⟨g, k * 2, none⟩ (.int .i64 e)).ownsRow base 9 1 (.slice Z[k].1.A D[k].2.length Z[k].1.c) D[k].2.length (Texts.flat D[k].2)) := by
        have := hck.2.2
        rw [o2, hzk] at this
        exact this
      have HMK := Lib.hid (markStringS_any base Z[k].1.A Z[k].1.c D[k].2 (e + 1) _ HW1.out (by omega) (by omega) (by omega))
      have HZ2 := Lib.hid hZ
      have HOW := Lib.hid hown
      have HKZ := Lib.hid hkz
      have HZK := Lib.hid hzk
      have HO2 := Lib.hid o2
      have x1 : (wr.setCell ⟨g, k * 2, none⟩ (.int .i64 e)).cell? ⟨g, k * 2 + 1, none⟩ = some (.slice Z[k].1.A D[k].2.length Z[k].1.c) := (World.cell?_setCell_other _ _ _ _ (by intro h; injection h with _ h _; omega)).trans r1
      clear hZ hown hzk o1 o2 o3 hR hc hs0 hck he hnc
      go_wp2_with fail
      refine HMK.out.mono ?_
      rintro e' w2 ⟨rfl, ho2, hg2⟩
      have HFIN : Hid (∃ Z, Chains w2 base Z (markTo m D (k + 1)) ∧ w2.ownsRow base 53 2 (.slice (some ⟨g, 0, none⟩) D.length c) D.length (zflat Z)) := by
        have := Chains.mark HZ2.out HKZ.out HOW.out HS0.out.2 HS0.out.1 e (Texts.marks (e + 1) D[k].2.length) (by rw [Texts.marks_len, HZK.out]) (by rw [HO2.out]; exact ho2) hg2
        refine ⟨_, by rw [HMS.out]; exact this.1, ?_⟩
        have h3 := this.2
        have hfs := flat_set (fun z : Raw × Dec => z.1.cells) 2 zlen (⟨e, Z[k].1.A, Z[k].1.n, Z[k].1.c⟩, (e, Texts.marks (e + 1) D[k].2.length)) 0 (.int .i64 e) (by omega) Z k HKZ.out rfl
        rw [Nat.add_zero] at hfs
        unfold zflat at h3
        rw [hfs] at h3
        exact h3
      have HBN : Hid (Below base w w2) := by
        have hb1 := HB.out.grown HS0.out.2 (Nat.le_trans hbase HB.out.size) (fun q hq => by injection hq with hq; omega)
        exact hb1.grown hg2 (Nat.le_trans hbase hb1.size) (fun q hq => (HW1.out.lt q (by rw [ownBlock_map]; exact hq)).1)
      clear ho2 hg2
      go_wp2
      go_roundw
      case rel => exact ⟨k + 1, by omega, by go_num, by rw [HNX.out], HFIN, HBN⟩
      case measure => simp [intOf]; omega
    · obtain rfl : k = D.length := by omega
      obtain ⟨Z, hZ, hown⟩ := HZ.out
      have e1 : markTo m D D.length = markD m D := by unfold markTo; rw [List.take_length, List.drop_length, List.append_nil]
      rw [e1] at hZ
      have HFIN : Hid (DecsOwn wr base A c (markD m D)) := ⟨Z, hZ, by rw [markD_len]; exact hown⟩
      rw [List.take_length]
      clear hZ hown HZ
      go_wp2
      go_ret
      exact ⟨rfl, HFIN.out, HB.out⟩

set_option maxHeartbeats 2000000 in
set_option maxRecDepth 100000 in
theorem heldDecisionS_any (A : Option Addr) (c : Nat) (D : List Dec) (m : Int) (w : World) (hA : DecsAt w A (markD m D)) (hlen : D.length ≤ 15) (hD : ∀ d ∈ D, d.2.length ≤ 12) (h1 : 1 ≤ m) (h2 : m ≤ 10000) :
    Calls Try.prog 50 #[.slice A D.length c, .int .i64 m] w fun e w' => e = .returned (.int .i64 (markEnd m D)) ∧ Below w.heap.size w w' := by
  have HA := Lib.hid hA
  have HD := Lib.hid hD
  clear hA hD
  go_enter Try.func50, Try.ntmps50
  go_wp2
  go_loopw [1, 5] (fun q i wr => ∃ k : Nat, k ≤ D.length ∧ i = .int .i64 k ∧ q = .int .i64 (markEnd m (D.take k)) ∧ Hid (Below w.heap.size w wr)) (fun _ i _ => D.length - (intOf i).toNat)
  case atStart => exact ⟨0, Nat.zero_le _, rfl, rfl, Lib.hid (Below.refl _ _)⟩
  case round =>
    obtain ⟨k, hk, rfl, rfl, HB⟩ := hrel
    by_cases hlt : k < D.length
    · have hkm : k < (markD m D).length := by rw [markD_len]; exact hlt
      obtain ⟨b, off, Ak, ak, rfl, hlb, c0, c1, hT⟩ := (HA.out.below HB.out) k hkm
      have hat := markD_at D m k hlt
      rw [List.getElem?_eq_getElem hkm] at hat
      injection hat with hat
      rw [hat] at c0 c1 hT
      simp only [Texts.marks_len] at c1
      have hme := markEnd_bd (D.take k) m (fun d hd => HD.out d (List.mem_of_mem_take hd))
      rw [List.length_take, Nat.min_eq_left hk] at hme
      have hdk := HD.out _ (List.getElem_mem hlt)
      have HNX : Hid (markEnd m (D.take (k + 1)) = markEnd m (D.take k) + 1 + (D[k].2.length : Nat)) := markEnd_take m hlt
      generalize markEnd m (D.take k) = e at c0 c1 hT hme HNX ⊢
      have HH := Lib.hid (heldStringS_any Ak ak D[k].2.length (e + 1) wr hT (by omega) (by omega) (by omega))
      clear hat hT hlb
      go_wp2_with fail
      refine HH.out.mono ?_
      rintro e' w2 ⟨rfl, hb⟩
      have HB2 := Lib.hid (HB.out.trans (hb.mono HB.out.size))
      clear hb
      go_wp2
      go_roundw
      case rel => exact ⟨k + 1, by omega, by go_num, by rw [HNX.out], HB2⟩
      case measure => simp [intOf]; omega
    · obtain rfl : k = D.length := by omega
      rw [List.take_length]
      go_wp2
      go_ret
      exact ⟨rfl, HB.out⟩

/-- A list of decisions stays behind a turned row of another type. -/
theorem DecsOwn.other {w w' : World} {base b2 c c2 n2 s2 : Nat} {A A2 : Option Addr} {D : List Dec} {T : TypeId} {xs : List Value} (h : DecsOwn w base A c D) (ho : w.ownsRow b2 T s2 (.slice A2 n2 c2) n2 xs) (h1 : ¬ (9 : TypeId) = T) (h2 : ¬ (53 : TypeId) = T) (hg : w.grownBy w' (A2.map (·.block))) : DecsOwn w' base A c D := by
  obtain ⟨Z, hZ, hr⟩ := h
  exact ⟨Z, ⟨hZ.map, fun z hz => ⟨(hZ.own z hz).1, (hZ.own z hz).2.1, own_kept (hZ.own z hz).2.2 hg (own_types h1 (hZ.own z hz).2.2 ho)⟩, hZ.ap⟩, own_kept hr hg (own_types h2 hr ho)⟩
theorem DecsOwn.below {w w' : World} {base c : Nat} {A : Option Addr} {D : List Dec} (h : DecsOwn w base A c D) (hb : Below w.heap.size w w') : DecsOwn w' base A c D := by
  obtain ⟨Z, hZ, hr⟩ := h
  exact ⟨Z, hZ.below hb, own_below hr hb⟩
/-- .. all of whose blocks lie below lim. -/
def DecsIn (w : World) (base lim : Nat) (A : Option Addr) (c : Nat) (D : List Dec) : Prop :=
  ∃ Z, Chains w base Z D ∧ w.ownsRow base 53 2 (.slice A D.length c) D.length (zflat Z) ∧ (∀ b, A.map (·.block) = some b → b < lim) ∧ ∀ z ∈ Z, ∀ b, blk z = some b → b < lim
theorem DecsOwn.in_ {w : World} {base c : Nat} {A : Option Addr} {D : List Dec} (h : DecsOwn w base A c D) : DecsIn w base w.heap.size A c D := by
  obtain ⟨Z, hZ, hr⟩ := h
  exact ⟨Z, hZ, hr, fun b hb => (hr.lt b (by rw [ownBlock_map]; exact hb)).2, fun z hz b hb => ((hZ.own z hz).2.2.lt b (by rw [ownBlock_map]; exact hb)).2⟩
theorem DecsIn.own {w : World} {base lim c : Nat} {A : Option Addr} {D : List Dec} (h : DecsIn w base lim A c D) : DecsOwn w base A c D := by
  obtain ⟨Z, hZ, hr, _⟩ := h
  exact ⟨Z, hZ, hr⟩
theorem DecsIn.other {w w' : World} {base lim b2 c c2 n2 s2 : Nat} {A A2 : Option Addr} {D : List Dec} {T : TypeId} {xs : List Value} (h : DecsIn w base lim A c D) (ho : w.ownsRow b2 T s2 (.slice A2 n2 c2) n2 xs) (h1 : ¬ (9 : TypeId) = T) (h2 : ¬ (53 : TypeId) = T) (hg : w.grownBy w' (A2.map (·.block))) : DecsIn w' base lim A c D := by
  obtain ⟨Z, hZ, hr, h3, h4⟩ := h
  exact ⟨Z, ⟨hZ.map, fun z hz => ⟨(hZ.own z hz).1, (hZ.own z hz).2.1, own_kept (hZ.own z hz).2.2 hg (own_types h1 (hZ.own z hz).2.2 ho)⟩, hZ.ap⟩, own_kept hr hg (own_types h2 hr ho), h3, h4⟩
theorem DecsIn.below {w w' : World} {base lim c : Nat} {A : Option Addr} {D : List Dec} (h : DecsIn w base lim A c D) (hb : Below w.heap.size w w') : DecsIn w' base lim A c D := by
  obtain ⟨Z, hZ, hr, h3, h4⟩ := h
  exact ⟨Z, hZ.below hb, own_below hr hb, h3, h4⟩
theorem own_low {w w' : World} {base e size n B : Nat} {A : Option Addr} {c : Nat} {xs : List Value} (h : w.ownsRow base e size (.slice A n c) n xs) (hb : Below B w w') (hl : ∀ b, A.map (·.block) = some b → b < B) : w'.ownsRow base e size (.slice A n c) n xs := by
  refine ⟨h.1, ?_⟩
  rcases h.2 with h | ⟨g, cap, cur, hv, hg, hh, r⟩
  · exact .inl h
  · refine .inr ⟨g, cap, cur, hv, hg, ?_, r⟩
    injection hv with hv
    rw [hb.block g (hl g (by rw [hv]; rfl))]
    exact hh
theorem DecsIn.low {w w' : World} {base lim B c : Nat} {A : Option Addr} {D : List Dec} (h : DecsIn w base lim A c D) (hb : Below B w w') (hl : lim ≤ B) : DecsIn w' base lim A c D := by
  obtain ⟨Z, hZ, hr, h3, h4⟩ := h
  exact ⟨Z, ⟨hZ.map, fun z hz => ⟨(hZ.own z hz).1, (hZ.own z hz).2.1, own_low (hZ.own z hz).2.2 hb (fun b hb' => Nat.lt_of_lt_of_le (h4 z hz b hb') hl)⟩, hZ.ap⟩, own_low hr hb (fun b hb' => Nat.lt_of_lt_of_le (h3 b hb') hl), h3, h4⟩
theorem decsR_12 (L : List Clause) (E : List Event) : (decsR L E).1.length ≤ 15 ∧ ∀ d ∈ (decsR L E).1, d.2.length ≤ 12 := by
  unfold decsR
  split
  · rename_i h
    simp only [Bool.and_eq_true] at h
    refine ⟨by rw [List.length_map]; exact log_len h.2, fun d hd => ?_⟩
    obtain ⟨e, _, rfl⟩ := List.mem_map.1 hd
    simp only [decOf, chainCodes, List.length_map]
    exact chain_len (rule_of h.1) e
  · simp
end Go.Proofs.Ythhfhdekhgkcaaa
