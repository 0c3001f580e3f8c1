/-
  Words and laws that do not speak of the program: worlds behind a call that makes memory only, slices that read as lists, plain functions on bytes and integers.
-/
import Derived.WalkKit
import Derived.WalkSpells
import Derived.WalkLawsBesides
import Derived.BigQuiet
import Derived.Deep.AppendLies
import Derived.Deep.Draws
import Derived.Lib.Hide
import Derived.Laws.AppendOwnNone
import Derived.Laws.CopyOwn
namespace Go.Proofs.Ythhfhdekhgkcaaa
open Go.RowKit

theorem ret_b {a b : Bool} (h : a = b) : Ending.returned (.bool a) = .returned (.bool b) := by rw [h]
theorem ret_i {a b : Int} (h : a = b) : Ending.returned (.int .i64 a) = .returned (.int .i64 b) := by rw [h]

/-! ### Worlds behind a call that only makes memory -/
def BW (w : World) := {w' : World // Below w.heap.size w w'}
instance (w : World) : Nonempty (BW w) := ⟨⟨w, Below.refl _ _⟩⟩
theorem BW.cell {w : World} (x : BW w) {a : Addr} {v : Value} (h : w.cell? a = some v) : x.val.cell? a = some v :=
  (x.2.cell (World.block_lt_of_cell? w a h)).trans h
theorem BW.frozen {w : World} (x : BW w) {a : Addr} {v : Value} (h : w.cell? a = some v) : x.val.frozen? a = w.frozen? a :=
  x.2.frozen (World.block_lt_of_cell? w a h)

theorem made_cell (w : World) (cs : Array Value) (T : TypeId) (j : Nat) (v : Value) (h : cs[j]? = some v) : (w.alloc (.cells cs T)).cell? ⟨w.heap.size, j, none⟩ = some v :=
  (World.cell?_alloc_mark w cs T _ j).trans h
theorem new_cell (w : World) (cs : Array Value) (T : TypeId) (j : Nat) (v : Value) (h : cs[j]? = some v) (x : BW (w.alloc (.cells cs T))) : x.val.cell? ⟨w.heap.size, j, none⟩ = some v :=
  x.cell ((World.cell?_alloc_mark w cs T _ j).trans h)

theorem wp_region_bw {P : Program} {id : Nat} {Q : Exit → Act → World → Prop} {a : Act} {w : World} {l : List Oper} (hm : P.follows .mixedOrders = true) (hB : Region.lexB .any l.toArray = true)
    (h : wpQuiet P l.toArray (fun w' => ∃ x : BW w, w' = x.val) (fun a' => ∀ w', (∃ x : BW w, w' = x.val) → Q .normal a' w') l a) : (Code.region id l.toArray true).wp P Q a w :=
  wp_region_quiet (C := fun w' => ∃ x : BW w, w' = x.val) hm hB ⟨⟨w.drew, (Below.refl _ _).drew⟩, rfl⟩ (by simpa using h)

theorem below_cell {w w' : World} {a : Addr} {v : Value} (hb : Below w.heap.size w w') (h : w.cell? a = some v) : w'.cell? a = some v :=
  (hb.cell (World.block_lt_of_cell? w a h)).trans h
theorem bw_out {w w' : World} (h : ∃ x : BW w, w' = x.val) : Below w.heap.size w w' := by
  obtain ⟨x, e⟩ := h
  rw [e]
  exact x.2
theorem bw_of {P : Program} {f : FuncId} {args : Array Value} {w : World} {v : Value} (x : BW w)
    (h : Calls P f args x.val fun e w' => e = .returned v ∧ Below x.val.heap.size x.val w') : Calls P f args x.val fun e w'' => e = .returned v ∧ ∃ y : BW w, w'' = y.val :=
  h.mono fun _ w'' ⟨he, hb⟩ => ⟨he, ⟨w'', x.2.trans (hb.mono x.2.size)⟩, rfl⟩
theorem bw_same {P : Program} {f : FuncId} {args : Array Value} {w : World} {v : Value} (x : BW w)
    (h : Calls P f args x.val fun e w' => e = .returned v ∧ x.val = w') : Calls P f args x.val fun e w'' => e = .returned v ∧ ∃ y : BW w, w'' = y.val :=
  h.mono fun _ _ ⟨he, hb⟩ => ⟨he, x, hb.symm⟩

theorem calls_b {P : Program} {f : FuncId} {args : Array Value} {w : World} {b b' : Bool} {R : World → Prop} (e : b = b') (h : Calls P f args w fun e w' => e = .returned (.bool b) ∧ R w') : Calls P f args w fun e w' => e = .returned (.bool b') ∧ R w' := by rwa [e] at h

/-! ### A slice that reads as a list of cells -/
theorem block_of_add (a : Addr) (n : Nat) : (a.add n).block = a.block := by unfold Addr.add; split <;> rfl
theorem add_of_add (a : Addr) (i j : Nat) : (a.add i).add j = a.add (i + j) := by
  unfold Addr.add
  by_cases hi : i = 0 <;> by_cases hj : j = 0 <;> simp [hi, hj, Nat.add_assoc]

def Reads (w : World) (size : Nat) (A : Option Addr) (n : Nat) (xs : List Value) : Prop :=
  xs.length = n * size ∧ (0 < n → ∃ b off, A = some ⟨b, off, none⟩ ∧ b < w.heap.size ∧ ∀ j u, xs[j]? = some u → w.cell? ⟨b, off + j, none⟩ = some u)

section
variable {w w' : World} {size n : Nat} {A : Option Addr} {xs : List Value}
theorem Reads.none_ : Reads w size A 0 [] := ⟨by simp, fun h => absurd h (by omega)⟩
theorem Reads.below (h : Reads w size A n xs) (hb : Below w.heap.size w w') : Reads w' size A n xs :=
  ⟨h.1, fun hn => by
    obtain ⟨b, off, e, hlt, hc⟩ := h.2 hn
    exact ⟨b, off, e, Nat.lt_of_lt_of_le hlt hb.size, fun j u hu => (hb.cell hlt).trans (hc j u hu)⟩⟩
theorem Reads.of_own {base : Nat} {e : TypeId} {c : Nat} (h : w.ownsRow base e size (.slice A n c) n xs) : Reads w size A n xs := by
  refine ⟨h.1, fun hn => ?_⟩
  obtain ⟨g, cap, hv, _, hlt⟩ := h.form hn
  have hA : A = some ⟨g, 0, none⟩ := by injection hv
  subst hA
  refine ⟨g, 0, rfl, hlt, fun j u hu => ?_⟩
  have := h.cells (g := g) rfl j u hu
  rwa [show (⟨g, 0, none⟩ : Addr).add j = ⟨g, 0 + j, none⟩ from by unfold Addr.add; split <;> simp_all] at this
end

/-! ### Rows of the call's own -/
section
variable {w w' : World} {base : Nat} {e : TypeId} {size n : Nat} {v : Value} {xs : List Value}
theorem own_below (h : w.ownsRow base e size v n xs) (hb : Below w.heap.size w w') : w'.ownsRow base e size v n xs :=
  h.kept (row := none) ⟨hb.os, hb.tape, hb.output, hb.size, fun k hk _ => hb.block k hk⟩ (by cases v.ownBlock <;> simp)
theorem own_shape (h : w.ownsRow base e size v n xs) : ∃ A cap, v = .slice A n cap ∧ n ≤ cap ∧ cap ≤ maxLen ∧ ((A = none ∧ n = 0 ∧ cap = 0) ∨ ∃ g, A = some ⟨g, 0, none⟩ ∧ base ≤ g ∧ g < w.heap.size) := by
  rcases h.2 with ⟨rfl, rfl⟩ | ⟨g, cap, cur, rfl, hg, hh, h1, h2, _⟩
  · exact ⟨none, 0, rfl, by omega, by unfold maxLen; omega, .inl ⟨rfl, rfl, rfl⟩⟩
  · exact ⟨_, cap, rfl, h1, h2, .inr ⟨g, rfl, hg, (Array.getElem?_eq_some_iff.1 hh).1⟩⟩
theorem own_base {base' : Nat} (h : w.ownsRow base e size v n xs) (hb : base' ≤ base) : w.ownsRow base' e size v n xs := by
  refine ⟨h.1, ?_⟩
  rcases h.2 with h | ⟨g, cap, cur, rfl, hg, r⟩
  · exact .inl h
  · exact .inr ⟨g, cap, cur, rfl, by omega, r⟩
end

theorem ownBlock_map (A : Option Addr) (n c : Nat) : (Value.slice A n c).ownBlock = A.map (·.block) := by cases A <;> rfl
/-- An elder row and one that was made later do not share a block. -/
theorem own_apart {w1 w2 : World} {b1 b2 : Nat} {e1 e2 : TypeId} {s1 s2 n1 n2 c1 c2 : Nat} {A1 A2 : Option Addr} {x1 x2 : List Value} (h1 : w1.ownsRow b1 e1 s1 (.slice A1 n1 c1) n1 x1) (h2 : w2.ownsRow b2 e2 s2 (.slice A2 n2 c2) n2 x2) (hb : w1.heap.size ≤ b2) :
    (A1.map (·.block) = none ∨ A1.map (·.block) ≠ A2.map (·.block)) ∧ (A2.map (·.block) = none ∨ A2.map (·.block) ≠ A1.map (·.block)) := by
  have k1 := h1.lt
  have k2 := h2.lt
  rw [ownBlock_map] at k1 k2
  cases hA1 : A1.map (·.block) with
  | none => cases hA2 : A2.map (·.block) with
    | none => exact ⟨.inl rfl, .inl rfl⟩
    | some y => exact ⟨.inl rfl, .inr (by simp)⟩
  | some x => cases hA2 : A2.map (·.block) with
    | none => exact ⟨.inr (by simp), .inl rfl⟩
    | some y =>
      have := (k1 x hA1).2
      have := (k2 y hA2).1
      exact ⟨.inr (by simp; omega), .inr (by simp; omega)⟩
theorem own_kept {w w' : World} {base : Nat} {e : TypeId} {size n c : Nat} {A : Option Addr} {xs : List Value} {row : Option Nat} (h : w.ownsRow base e size (.slice A n c) n xs) (hg : w.grownBy w' row) (hne : A.map (·.block) = none ∨ A.map (·.block) ≠ row) : w'.ownsRow base e size (.slice A n c) n xs :=
  h.kept hg (by rw [ownBlock_map]; exact hne)
theorem mark_cell {w w' : World} {base : Nat} {e : TypeId} {size n c : Nat} {A : Option Addr} {xs : List Value} {a : Addr} {v : Value} (h : w.ownsRow base e size (.slice A n c) n xs) (hg : w.grownBy w' (A.map (·.block))) (hc : w.cell? a = some v) (hb : a.block < base) : w'.cell? a = some v :=
  hg.cell hc (fun e => by
    have := (h.lt a.block (by rw [ownBlock_map]; exact e.symm)).1
    omega)
theorem below_mark {W w w' : World} {base : Nat} {e : TypeId} {size n c : Nat} {A : Option Addr} {xs : List Value} (hB : Below W.heap.size W w) (h : w.ownsRow base e size (.slice A n c) n xs) (hg : w.grownBy w' (A.map (·.block))) (hb : W.heap.size ≤ base) : Below W.heap.size W w' :=
  hB.grown hg hB.size (fun g hg' => Nat.le_trans hb (h.lt g (by rw [ownBlock_map]; exact hg')).1)

/-- append onto a row of the call's own, from whatever slice reads as cells. -/
theorem run_append_src {P : Program} (w : World) (base : Nat) (t ty e : TypeId) (i : TypeInfo) (z : Value) (size bytes : Nat) (ht : P.underlying t = some (.slice e)) (hi : P.info? e = some i) (hz : i.zero = some z)
    (hsize : i.size = size) (hby : i.bytes = bytes) (hzs : z.cells.size = size) (hsz : 0 < size)
    (v : Value) (n : Nat) (xs : List Value) (hown : w.ownsRow base e size v n xs) (A : Option Addr) (m c : Nat) (news : List Value) (hr : Reads w size A m news) (h1 : ∀ u ∈ news, u.oneCell' = true)
    (h63 : n + m ≤ maxLen) (hbytes : (n + m) * bytes ≤ 140737488355328) (hbase : base ≤ w.heap.size) :
    ∃ A' c' w', (Builtin.append_ #[t, t] ty #[v, .slice A m c]).run P w = .ok (.slice A' (n + m) c') w' ∧ w'.ownsRow base e size (.slice A' (n + m) c') (n + m) (xs ++ news) ∧ w.grownBy w' v.ownBlock := by
  have key : ∀ ad, (∀ j u, news[j]? = some u → w.cell? (Addr.add ad j) = some u) → A = some ad → ∃ A' c' w', (Builtin.append_ #[t, t] ty #[v, .slice A m c]).run P w = .ok (.slice A' (n + m) c') w' ∧ w'.ownsRow base e size (.slice A' (n + m) c') (n + m) (xs ++ news) ∧ w.grownBy w' v.ownBlock := by
    rintro ad hc rfl
    obtain ⟨v', w', h, ho, hg, _⟩ := run_append_own (P := P) w base t ty e i z size bytes ht hi hz hsize hby hzs hsz v n xs hown ad m c news hr.1 hc h1 h63 hbytes hbase
    obtain ⟨A', c', rfl, _⟩ := own_shape ho
    exact ⟨A', c', w', h, ho, hg⟩
  by_cases hm : 0 < m
  · obtain ⟨b, off, rfl, _, hc⟩ := hr.2 hm
    exact key ⟨b, off, none⟩ (fun j u hj => by rw [Go.WideShapes.add_plain]; exact hc j u hj) rfl
  · obtain rfl : m = 0 := by omega
    obtain rfl : news = [] := List.eq_nil_of_length_eq_zero (by have := hr.1; omega)
    cases A with
    | some ad => exact key ad (fun j u hj => by simp at hj) rfl
    | none =>
      obtain ⟨A', c', rfl, hnc, _⟩ := own_shape hown
      refine ⟨A', c', w, ?_, by simpa using hown, World.grownBy.refl _ _⟩
      rcases hown.2 with ⟨h, rfl⟩ | ⟨g, cap, cur, h, _, _, hnc, _⟩
      · injection h with h1 h2 h3
        subst h1; subst h3
        simp [Builtin.append_, run_underlying ht, sizeOf, typeInfo, hi, Builtin.lenOf, Builtin.firstCells]
      · injection h with h1 h2 h3
        subst h1; subst h3
        simp [Builtin.append_, run_underlying ht, sizeOf, typeInfo, hi, Builtin.lenOf, Builtin.firstCells, hnc, storeCells]
theorem wp_append_src {P : Program} (w : World) {o : Oper} {a : Act} {K : Act → World → Prop} {Q : Exit → Act → World → Prop} (s x : Operand) (t : TypeId)
    (ho : o.op = .call { callee := .builtin .append, args := #[s, x], argTypes := #[t, t] })
    (base : Nat) (e : TypeId) (i : TypeInfo) (z : Value) (size bytes : Nat) (ht : P.underlying t = some (.slice e)) (hi : P.info? e = some i) (hz : i.zero = some z)
    (hsize : i.size = size) (hby : i.bytes = bytes) (hzs : z.cells.size = size) (hsz : 0 < size)
    (v : Value) (n : Nat) (xs : List Value) (hs : a.eval s = v) (hown : w.ownsRow base e size v n xs) (A : Option Addr) (m c : Nat) (hx : a.eval x = .slice A m c) (news : List Value) (hr : Reads w size A m news) (h1 : ∀ u ∈ news, u.oneCell' = true)
    (h63 : n + m ≤ maxLen) (hbytes : (n + m) * bytes ≤ 140737488355328) (hbase : base ≤ w.heap.size)
    (h : ∀ A' c' w', w'.ownsRow base e size (.slice A' (n + m) c') (n + m) (xs ++ news) → w.grownBy w' v.ownBlock → K (a.put o.dst (.slice A' (n + m) c')) w') : o.wp P a w K Q := by
  obtain ⟨A', c', w', hrun, h2, h3⟩ := run_append_src (P := P) w base t o.type e i z size bytes ht hi hz hsize hby hzs hsz v n xs hown A m c news hr h1 h63 hbytes hbase
  unfold Oper.wp execOp
  simp only [ho, resolve, invoke, builtin, Sem.run_bind, Sem.run_pure, Result.andThen_ok, List.map_toArray, List.map_cons, List.map_nil, hs, hx, hrun]
  exact h A' c' w' h2 h3
theorem step_append_src {P : Program} (w : World) {ops : Array Oper} {o : Oper} {a : Act} {K : Act → World → Prop} {Q : Exit → Act → World → Prop} {E : Prop} (hgd : o.guard = none) (s x : Operand) (t : TypeId)
    (ho : o.op = .call { callee := .builtin .append, args := #[s, x], argTypes := #[t, t] })
    (base : Nat) (e : TypeId) (i : TypeInfo) (z : Value) (size bytes : Nat) (ht : P.underlying t = some (.slice e)) (hi : P.info? e = some i) (hz : i.zero = some z)
    (hsize : i.size = size) (hby : i.bytes = bytes) (hzs : z.cells.size = size) (hsz : 0 < size)
    (v : Value) (n : Nat) (xs : List Value) (hs : a.eval s = v) (hown : w.ownsRow base e size v n xs) (A : Option Addr) (m c : Nat) (hx : a.eval x = .slice A m c) (news : List Value) (hr : Reads w size A m news) (h1 : ∀ u ∈ news, u.oneCell' = true)
    (h63 : n + m ≤ maxLen) (hbytes : (n + m) * bytes ≤ 140737488355328) (hbase : base ≤ w.heap.size)
    (h : ∀ A' c' w', w'.ownsRow base e size (.slice A' (n + m) c') (n + m) (xs ++ news) → w.grownBy w' v.ownBlock → K (a.put o.dst (.slice A' (n + m) c')) w') :
    if Region.wanted o (yielded ops a.tmps) = true then Oper.wp P o a w K Q else E := by
  have hw : Region.wanted o (yielded ops a.tmps) = true := by simp [Region.wanted, hgd]
  rw [if_pos hw]
  exact wp_append_src w s x t ho base e i z size bytes ht hi hz hsize hby hzs hsz v n xs hs hown A m c hx news hr h1 h63 hbytes hbase h
theorem wpList_append_src {P : Program} (w : World) {ops : Array Oper} {rest : List Oper} {o : Oper} {a : Act} {Q : Exit → Act → World → Prop} (hgd : o.guard = none) (s x : Operand) (t : TypeId)
    (ho : o.op = .call { callee := .builtin .append, args := #[s, x], argTypes := #[t, t] })
    (base : Nat) (e : TypeId) (i : TypeInfo) (z : Value) (size bytes : Nat) (ht : P.underlying t = some (.slice e)) (hi : P.info? e = some i) (hz : i.zero = some z)
    (hsize : i.size = size) (hby : i.bytes = bytes) (hzs : z.cells.size = size) (hsz : 0 < size)
    (v : Value) (n : Nat) (xs : List Value) (hs : a.eval s = v) (hown : w.ownsRow base e size v n xs) (A : Option Addr) (m c : Nat) (hx : a.eval x = .slice A m c) (news : List Value) (hr : Reads w size A m news) (h1 : ∀ u ∈ news, u.oneCell' = true)
    (h63 : n + m ≤ maxLen) (hbytes : (n + m) * bytes ≤ 140737488355328) (hbase : base ≤ w.heap.size)
    (h : ∀ A' c' w', w'.ownsRow base e size (.slice A' (n + m) c') (n + m) (xs ++ news) → w.grownBy w' v.ownBlock → wpList P ops Q rest (a.put o.dst (.slice A' (n + m) c')) w') : wpList P ops Q (o :: rest) a w :=
  wpList_plain hgd fun _ hK => wp_append_src w s x t ho base e i z size bytes ht hi hz hsize hby hzs hsz v n xs hs hown A m c hx news hr h1 h63 hbytes hbase fun A' c' w' h2 h3 => hK _ _ (h A' c' w' h2 h3)
/-- A part of a slice reads as a part of the list. -/
theorem Reads.take {w : World} {size n : Nat} {A : Option Addr} {xs : List Value} (h : Reads w size A n xs) {k : Nat} (hk : k ≤ n) : Reads w size A k (xs.take (k * size)) := by
  refine ⟨by rw [List.length_take, h.1]; exact Nat.min_eq_left (Nat.mul_le_mul_right _ hk), fun h0 => ?_⟩
  obtain ⟨b, off, e, hb, hc⟩ := h.2 (by omega)
  refine ⟨b, off, e, hb, fun j u hu => hc j u ?_⟩
  rw [List.getElem?_take] at hu
  split at hu
  · exact hu
  · cases hu
theorem Reads.drop {w : World} {size n : Nat} {b off : Nat} {xs : List Value} (h : Reads w size (some ⟨b, off, none⟩) n xs) {k : Nat} (hk : k ≤ n) : Reads w size (some ⟨b, off + k * size, none⟩) (n - k) (xs.drop (k * size)) := by
  refine ⟨by rw [List.length_drop, h.1, Nat.sub_mul], fun h0 => ?_⟩
  obtain ⟨b', off', e, hb, hc⟩ := h.2 (by omega)
  injection e with e
  injection e with e1 e2
  subst e1; subst e2
  refine ⟨b, off + k * size, rfl, hb, fun j u hu => ?_⟩
  rw [List.getElem?_drop] at hu
  have := hc _ _ hu
  rwa [Nat.add_assoc]
theorem flat_take {α : Type} (f : α → List Value) (c : Nat) (hf : ∀ a, (f a).length = c) : ∀ (L : List α) (k : Nat), (L.flatMap f).take (k * c) = (L.take k).flatMap f
  | [], k => by simp
  | a :: L, 0 => by simp
  | a :: L, k + 1 => by
    rw [List.flatMap_cons, List.take_append, List.take_of_length_le (by rw [hf, Nat.add_mul]; omega), hf, show (k + 1) * c - c = k * c from by rw [Nat.add_mul]; omega, flat_take f c hf L k]; simp
theorem flat_drop {α : Type} (f : α → List Value) (c : Nat) (hf : ∀ a, (f a).length = c) : ∀ (L : List α) (k : Nat), (L.flatMap f).drop (k * c) = (L.drop k).flatMap f
  | [], k => by simp
  | a :: L, 0 => by simp
  | a :: L, k + 1 => by
    rw [List.flatMap_cons, List.drop_append, List.drop_of_length_le (by rw [hf, Nat.add_mul]; omega), hf, show (k + 1) * c - c = k * c from by rw [Nat.add_mul]; omega, flat_drop f c hf L k]; simp

/-- Cells written one behind the other. -/
def wrW (w : World) (g : Nat) : Nat → List Value → World
  | _, [] => w
  | i, v :: vs => wrW (w.setCell ⟨g, i, none⟩ v) g (i + 1) vs
def wrL (xs : List Value) : Nat → List Value → List Value
  | _, [] => xs
  | i, v :: vs => wrL (xs.set i v) (i + 1) vs
theorem grown_set (w : World) (g i : Nat) (v : Value) : w.grownBy (w.setCell ⟨g, i, none⟩ v) (some g) :=
  ⟨rfl, rfl, rfl, by simp [World.setCell], fun k _ hk => heap_setCell_other w ⟨g, i, none⟩ k v (fun e => hk (by simp [e]))⟩
theorem grown_tr {a b c : World} {row : Option Nat} (h : a.grownBy b row) (k : b.grownBy c row) : a.grownBy c row :=
  ⟨k.os.trans h.os, k.tape.trans h.tape, k.output.trans h.output, Nat.le_trans h.size k.size, fun i hi hn => (k.block i (Nat.lt_of_lt_of_le hi h.size) hn).trans (h.block i hi hn)⟩
theorem grown_below {a b : World} {row : Option Nat} (h : Below a.heap.size a b) : a.grownBy b row := ⟨h.os, h.tape, h.output, h.size, fun i hi _ => h.block i hi⟩
theorem own_wr {base : Nat} {e : TypeId} {size g n cap : Nat} : ∀ (vs : List Value) (w : World) (xs : List Value) (i : Nat), w.ownsRow base e size (.slice (some ⟨g, 0, none⟩) n cap) n xs →
    (wrW w g i vs).ownsRow base e size (.slice (some ⟨g, 0, none⟩) n cap) n (wrL xs i vs) ∧ w.grownBy (wrW w g i vs) (some g)
  | [], w, xs, i, h => ⟨h, World.grownBy.refl _ _⟩
  | v :: vs, w, xs, i, h => by
    have := own_wr vs _ _ (i + 1) (h.stored i v).1
    exact ⟨this.1, grown_tr (grown_set _ _ _ _) this.2⟩
theorem wrL_append (l : List Value) : ∀ (vs r : List Value) (j : Nat), wrL (l ++ r) (l.length + j) vs = l ++ wrL r j vs
  | [], _, _ => rfl
  | v :: vs, r, j => by
    simp only [wrL]
    rw [List.set_append_right _ _ (by omega), show l.length + j - l.length = j from by omega, Nat.add_assoc, wrL_append l vs]
theorem wrL_head : ∀ (vs u r : List Value), u.length = vs.length → wrL (u ++ r) 0 vs = vs ++ r
  | [], u, r, h => by rw [List.length_eq_zero_iff.1 h]; rfl
  | v :: vs, [], r, h => by simp at h
  | v :: vs, x :: u, r, h => by
    have := wrL_append [v] vs (u ++ r) 0
    simp only [wrL, List.cons_append, List.set_cons_zero]
    simp only [List.length_singleton, Nat.add_zero, List.singleton_append] at this
    rw [this, wrL_head vs u r (by simpa using h)]
theorem flat_get {α : Type} (f : α → List Value) (c : Nat) (hf : ∀ a, (f a).length = c) : ∀ (L : List α) (k j : Nat) (hk : k < L.length), j < c → (L.flatMap f)[k * c + j]? = (f L[k])[j]?
  | [], k, _, hk, _ => by simp at hk
  | a :: L, 0, j, _, hj => by
    rw [List.flatMap_cons, List.getElem?_append_left (by rw [hf]; omega)]; simp
  | a :: L, k + 1, j, hk, hj => by
    rw [List.flatMap_cons, List.getElem?_append_right (by rw [hf, Nat.add_mul]; omega), hf, show (k + 1) * c + j - c = k * c + j from by rw [Nat.add_mul]; omega, flat_get f c hf L k j (by simpa using hk) hj]
    simp
theorem flat_len {α : Type} (f : α → List Value) (c : Nat) (hf : ∀ a, (f a).length = c) (L : List α) : (L.flatMap f).length = L.length * c := by
  induction L with
  | nil => simp
  | cons a L ih => rw [List.flatMap_cons, List.length_append, hf, ih, List.length_cons, Nat.add_mul]; omega
theorem flat_wr {α : Type} (f : α → List Value) (c : Nat) (hf : ∀ a, (f a).length = c) (a : α) : ∀ (L : List α) (k : Nat), k < L.length → wrL (L.flatMap f) (k * c) (f a) = (L.set k a).flatMap f
  | [], k, hk => by simp at hk
  | b :: L, 0, _ => by
    rw [List.flatMap_cons, Nat.zero_mul, wrL_head _ _ _ (by rw [hf, hf])]; simp
  | b :: L, k + 1, hk => by
    rw [List.flatMap_cons, show (k + 1) * c = (f b).length + k * c from by rw [hf, Nat.add_mul]; omega, wrL_append, flat_wr f c hf a L k (by simpa using hk)]; simp
theorem flat_set {α : Type} (f : α → List Value) (c : Nat) (hf : ∀ a, (f a).length = c) (a : α) (j : Nat) (v : Value) (hj : j < c) : ∀ (L : List α) (k : Nat) (hk : k < L.length), f a = (f L[k]).set j v → (L.flatMap f).set (k * c + j) v = (L.set k a).flatMap f
  | [], k, hk, _ => by simp at hk
  | b :: L, 0, _, h => by
    rw [List.flatMap_cons, Nat.zero_mul, Nat.zero_add, List.set_append_left _ _ (by rw [hf]; omega), List.set_cons_zero, List.flatMap_cons, h]; rfl
  | b :: L, k + 1, hk, h => by
    rw [List.flatMap_cons, List.set_append_right _ _ (by rw [hf, Nat.add_mul]; omega), hf, show (k + 1) * c + j - c = k * c + j from by rw [Nat.add_mul]; omega,
      flat_set f c hf a j v hj L k (by simpa using hk) (by simpa using h)]; simp
theorem made_flat {α : Type} (f : α → List Value) (z : α) (zs : Array Value) (c n : Nat) (hc : 0 < c) (hz : zs.size = c) (hf : f z = zs.toList) : (madeCells zs (n * c)).toList = (List.replicate n z).flatMap f := by
  apply List.ext_getElem?
  intro i
  by_cases hi : i < n * c
  · have hk : i / c < n := Nat.div_lt_of_lt_mul (by rw [Nat.mul_comm]; exact hi)
    have e : i = i / c * c + i % c := by have := Nat.div_add_mod i c; rw [Nat.mul_comm] at this; omega
    have hm := Nat.mod_lt i hc
    have g := flat_get (fun _ : Unit => f z) c (fun _ => by rw [hf]; simpa using hz) (List.replicate n ()) (i / c) (i % c) (by simpa using hk) hm
    rw [← e] at g
    have e2 : (List.replicate n ()).flatMap (fun _ => f z) = (List.replicate n z).flatMap f := by
      clear g e hk hi hm
      induction n with
      | zero => rfl
      | succ n ih => simp only [List.replicate_succ, List.flatMap_cons, ih]
    rw [← e2, g, hf]
    simp [madeCells, hi, hz, hm]
  · rw [List.getElem?_eq_none (by simp [madeCells]; omega), List.getElem?_eq_none]
    have : ((List.replicate n z).flatMap f).length = n * c := by
      have h0 := hf
      clear hi i
      induction n with
      | zero => simp
      | succ n ih => rw [List.replicate_succ, List.flatMap_cons, List.length_append, ih, hf, Array.length_toList, hz, Nat.add_mul]; omega
    omega

/-! ### Function values that answer a bool -/
theorem run_callFunc_enter {P : Program} {f : FuncId} {fn : Func} (hf : P.funcs[f]? = some fn) (hn : (fn.name == "runtime.NumGoroutine") = false) (hb : fn.body.isNone = false) (args : Array Value) (w : World) :
    (callFunc f args).run P w = .ok (.enter f args) w := by
  have hn' : ¬ fn.name = "runtime.NumGoroutine" := by simpa using hn
  have hb' : ¬ fn.body = none := by intro h; rw [h] at hb; cases hb
  simp [callFunc, hf, hn', hb', go_sem]

/-- The function value (f, captured) answers p on the elements of L, in every world behind W, and makes memory only. -/
structure Fun1 {α : Type} (P : Program) (f : FuncId) (fc : Array Value) (W : World) (v : α → Value) (p : α → Bool) (L : List α) : Prop where
  enter : ∀ args w, (callFunc f args).run P w = .ok (.enter f args) w
  calls : ∀ w', Below W.heap.size W w' → ∀ x ∈ L, Calls P f (#[v x] ++ fc) w' fun e w'' => e = .returned (.bool (p x)) ∧ Below w'.heap.size w' w''

section
variable {α : Type} (p : α → Bool) (L : List α)
def idx : Int := match L.findIdx? p with | some k => k | none => -1
theorem idx_hit {k : Nat} (hk : k < L.length) (h : ∀ x ∈ L.take k, p x = false) (hp : p L[k] = true) : idx p L = k := by
  have : L.findIdx? p = some k := by
    rw [List.findIdx?_eq_some_iff_getElem]
    refine ⟨hk, hp, fun j hj => ?_⟩
    have := h L[j] (by rw [List.mem_take_iff_getElem]; exact ⟨j, by omega, rfl⟩)
    simp [this]
  simp [idx, this]
theorem idx_none (h : ∀ x ∈ L, p x = false) : idx p L = -1 := by
  have : L.findIdx? p = none := by rw [List.findIdx?_eq_none_iff]; exact h
  simp [idx, this]
theorem idx_bd : -1 ≤ idx p L ∧ idx p L < L.length := by
  unfold idx
  split
  · rename_i k h
    rw [List.findIdx?_eq_some_iff_getElem] at h
    obtain ⟨h, _⟩ := h
    omega
  · omega
theorem idx_any : decide (0 ≤ idx p L) = L.any p := by
  unfold idx
  split
  · rename_i k h
    rw [List.findIdx?_eq_some_iff_getElem] at h
    obtain ⟨h, hp, _⟩ := h
    have : L.any p = true := List.any_eq_true.2 ⟨_, List.getElem_mem h, hp⟩
    rw [this]; simp
  · rename_i h
    rw [List.findIdx?_eq_none_iff] at h
    have : L.any p = false := List.any_eq_false.2 (fun x hx => by simp [h x hx])
    rw [this]; rfl
theorem take_step {k : Nat} (hk : k < L.length) (h : ∀ x ∈ L.take k, p x = false) (hp : p L[k] = false) : ∀ x ∈ L.take (k + 1), p x = false := by
  intro x hx
  rw [List.take_succ_eq_append_getElem hk, List.mem_append, List.mem_singleton] at hx
  rcases hx with hx | rfl
  · exact h x hx
  · exact hp
def ixc (i : Int) : Int × Int := if i < 0 then (0, 4) else (i, 0)
def idxs : List Int := (L.zipIdx.filter (fun x => p x.1)).map (fun x => (x.2 : Int))
theorem idxs_hit {k : Nat} (hk : k < L.length) (hp : p L[k] = true) : idxs p (L.take (k + 1)) = idxs p (L.take k) ++ [(k : Int)] := by
  rw [List.take_succ_eq_append_getElem hk, idxs, List.zipIdx_append]
  simp [idxs, hp, Nat.min_eq_left (Nat.le_of_lt hk)]
theorem idxs_miss {k : Nat} (hk : k < L.length) (hp : p L[k] = false) : idxs p (L.take (k + 1)) = idxs p (L.take k) := by
  rw [List.take_succ_eq_append_getElem hk, idxs, List.zipIdx_append]
  simp [idxs, hp]
theorem idxs_len : (idxs p L).length ≤ L.length := by
  unfold idxs
  rw [List.length_map]
  exact Nat.le_trans (List.length_filter_le _ _) (by simp)
end

/-! ### Lists whose elements are all right, and each in order with the one before -/
section
variable {α : Type} (ok : α → Bool) (rel : α → α → Bool)
def linked : Option α → List α → Bool
  | _, [] => true
  | p, x :: L => ok x && (match p with | none => true | some y => rel y x) && linked (some x) L
def prevAt (L : List α) (k : Nat) : Option α := if k = 0 then none else L[k - 1]?
theorem linked_step (L : List α) (k : Nat) (h : k < L.length) : linked ok rel (prevAt L k) (L.drop k) = (ok L[k] && (match prevAt L k with | none => true | some y => rel y L[k]) && linked ok rel (prevAt L (k + 1)) (L.drop (k + 1))) := by
  rw [List.drop_eq_getElem_cons h]
  simp [linked, prevAt, h]
variable {ok rel} {L : List α}
theorem lk_false {k : Nat} (h : k < L.length) (ho : ok L[k] = false) : linked ok rel (prevAt L k) (L.drop k) = false := by
  rw [linked_step ok rel L k h, ho]; rfl
theorem lk_zero (h : 0 < L.length) (ho : ok L[0] = true) : linked ok rel (prevAt L 0) (L.drop 0) = linked ok rel (prevAt L 1) (L.drop 1) := by
  rw [linked_step ok rel L 0 h, ho]; simp [prevAt]
theorem lk_succ {j : Nat} (h : j + 1 < L.length) (ho : ok L[j + 1] = true) (h6 : rel (L[j]'(by omega)) L[j + 1] = true) : linked ok rel (prevAt L (j + 1)) (L.drop (j + 1)) = linked ok rel (prevAt L (j + 2)) (L.drop (j + 2)) := by
  have e : prevAt L (j + 1) = some (L[j]'(by omega)) := by simp [prevAt, show j < L.length from by omega]
  rw [linked_step ok rel L (j + 1) h, ho, e]; simp [h6]
theorem lk_prev {j : Nat} (h : j + 1 < L.length) (ho : ok L[j + 1] = true) (h6 : rel (L[j]'(by omega)) L[j + 1] = false) : linked ok rel (prevAt L (j + 1)) (L.drop (j + 1)) = false := by
  have e : prevAt L (j + 1) = some (L[j]'(by omega)) := by simp [prevAt, show j < L.length from by omega]
  rw [linked_step ok rel L (j + 1) h, ho, e]; simp [h6]
theorem lk_end {k : Nat} (h : L.length ≤ k) : linked ok rel (prevAt L k) (L.drop k) = true := by
  rw [List.drop_eq_nil_of_le h]; rfl
theorem linked_all : ∀ {L : List α} {p : Option α}, linked ok rel p L = true → ∀ x ∈ L, ok x = true
  | [], _, _, x, hx => by simp at hx
  | a :: L, p, h, x, hx => by
    simp only [linked, Bool.and_eq_true] at h
    rcases List.mem_cons.1 hx with rfl | hx
    · exact h.1.1
    · exact linked_all h.2 x hx
end

/-! ### Plain functions -/
def sEq (a b : ByteArray) : Bool := a.toList == b.toList
theorem sEq_iff {a b : ByteArray} : sEq a b = true ↔ a = b := by
  unfold sEq; rw [beq_iff_eq, ByteArray.toList_eq, ByteArray.toList_eq]; exact ⟨fun h => ByteArray.ext (Array.toList_inj.mp h), fun h => by rw [h]⟩
theorem sEq_ff {a b : ByteArray} : sEq a b = false ↔ a ≠ b := by
  rw [← Bool.not_eq_true, sEq_iff]
def inB (n lo hi : Int) : Bool := decide (lo ≤ n) && decide (n ≤ hi)
theorem inB_t {n lo hi : Int} (h : lo ≤ n) : inB n lo hi = decide (n ≤ hi) := by simp [inB, h]
theorem inB_f {n lo hi : Int} (h : n < lo) : inB n lo hi = false := by simp [inB]; omega
theorem inB_iff {n lo hi : Int} : inB n lo hi = true ↔ lo ≤ n ∧ n ≤ hi := by simp [inB]

def letter (lo hi : Int) (c : UInt8) : Bool := decide (lo ≤ (c.toNat : Int)) && decide ((c.toNat : Int) ≤ hi)
def spelledB (s : ByteArray) (least most lo hi : Int) : Bool := s.data.toList.all (letter lo hi) && inB s.size least most
def isCode (s : ByteArray) : Bool := spelledB s 1 6 97 122

def daysIn (y m : Int) : Int := if m = 2 then (if y % 4 = 0 then 29 else 28) else if m = 4 ∨ m = 6 ∨ m = 9 ∨ m = 11 then 30 else 31
/-- The days of the first k months. -/
def cum (y : Int) : Nat → Int
  | 0 => 0
  | k + 1 => cum y k + daysIn y (k + 1)
def dayNum (y : Int) (k : Nat) (d : Int) : Int := 365 * (y - 1970) + (y - 1970 + 1) / 4 + d - 1 + cum y k
theorem dayNum_last : dayNum 2069 11 31 = 36524 := by decide
theorem daysIn_bd (y m : Int) : 28 ≤ daysIn y m ∧ daysIn y m ≤ 31 := by unfold daysIn; split <;> (try split) <;> omega
theorem cum_bd (y : Int) : ∀ k, 0 ≤ cum y k ∧ cum y k ≤ 31 * k
  | 0 => by simp [cum]
  | k + 1 => by have := cum_bd y k; have := daysIn_bd y (k + 1); simp only [cum]; omega
def isDay (n : Int) : Bool := inB n 0 36524
end Go.Proofs.Ythhfhdekhgkcaaa
