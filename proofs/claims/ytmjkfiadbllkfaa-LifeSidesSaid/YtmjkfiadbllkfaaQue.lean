/-
  A queue of numbers in memory: appended to at its end, cut at its front.
-/
import Derived.Test.YtmjkfiadbllkfaaLifeLaws
import Derived.ArgAppend
import Derived.OwnWalk
namespace Go.Proofs.Ytmjkfiadbllkfaa
open Go.ChangeShapes Go.WideShapes Go.ChangeAt Go.RowKit Go.Deep
set_option linter.unusedVariables false

/-- The slice value v reads as the numbers l; its array lies in a block from B on. -/
def Que (w : World) (B : Nat) (v : Value) (l : List Int) : Prop :=
  ∃ h off cap row, v = .slice (some ⟨h, off, none⟩) l.length cap ∧ B ≤ h ∧ w.heap[h]? = some (.cells row 3 (0, 0)) ∧ off + cap ≤ row.size ∧ l.length ≤ cap ∧ ∀ j x, l[j]? = some x → row[off + j]? = some (.int .i64 x)

section
variable {w w' : World} {B : Nat} {v : Value} {l : List Int}

theorem Que.lt (h : Que w B v l) : ∃ k, v.ownBlock = some k ∧ B ≤ k ∧ k < w.heap.size := by
  obtain ⟨h, off, cap, row, rfl, h2, h3, _⟩ := h
  exact ⟨h, rfl, h2, lt_of_block h3⟩
theorem Que.kept {row : Option Nat} (h : Que w B v l) (hg : w.grownBy w' row) (hne : v.ownBlock ≠ row) : Que w' B v l := by
  obtain ⟨g, off, cap, row, rfl, h2, h3, h4⟩ := h
  exact ⟨g, off, cap, row, rfl, h2, (hg.block g (lt_of_block h3) hne).trans h3, h4⟩
theorem Que.below (h : Que w B v l) (hb : Below w.heap.size w w') : Que w' B v l := by
  obtain ⟨g, off, cap, row, rfl, h2, h3, h4⟩ := h
  exact ⟨g, off, cap, row, rfl, h2, (hb.block g (lt_of_block h3)).trans h3, h4⟩
theorem Que.alloc (h : Que w B v l) (o : Obj) : Que (w.alloc o) B v l := h.below ((Below.refl _ _).alloc (Nat.le_refl _) _)
theorem Que.cell (h : Que w B v l) : ∃ a off cap, v = .slice (some ⟨a, off, none⟩) l.length cap ∧ l.length ≤ cap ∧ ∀ j x, l[j]? = some x → w.cell? ⟨a, off + j, none⟩ = some (.int .i64 x) := by
  obtain ⟨g, off, cap, row, rfl, h2, h3, h4, h5, h6⟩ := h
  exact ⟨g, off, cap, rfl, h5, fun j x hx => by rw [cell_of_row w g _ row 3 (0, 0) h3]; exact h6 j x hx⟩
/-- A cut at the front. -/
theorem Que.tail {a off cap n : Nat} {x : Int} (h : Que w B (.slice (some ⟨a, off, none⟩) n cap) (x :: l)) : Que w B (.slice (if cap = 1 then some ⟨a, off, none⟩ else some ⟨a, off + 1, none⟩) (n - 1) (cap - 1)) l := by
  obtain ⟨g, o, c, row, h1, h2, h3, h4, h5, h6⟩ := h
  injection h1 with h1 h7 h8
  injection h1 with h1
  injection h1 with h1 h9 _
  subst h1; subst h8; subst h9
  have hn : n - 1 = l.length := by rw [h7]; rfl
  rw [hn]
  by_cases hc : cap = 1
  · rw [if_pos hc]
    have hl : l = [] := by apply List.eq_nil_of_length_eq_zero; simp at h5; omega
    subst hl
    exact ⟨a, off, cap - 1, row, rfl, h2, h3, by omega, by simp, fun j x hx => by simp at hx⟩
  · rw [if_neg hc]
    refine ⟨a, off + 1, cap - 1, row, rfl, h2, h3, by simp at h5; omega, by simp at h5; omega, fun j y hy => ?_⟩
    have := h6 (j + 1) y (by simpa using hy)
    rw [← this]
    congr 1
    omega
end

theorem que_own {w : World} {B n : Nat} {v : Value} {l : List Int} (h : w.ownsRow B 3 1 v n (l.map (Value.int .i64))) (hn : 0 < n) : Que w B v l := by
  obtain ⟨h1, h2⟩ := h
  have hl : n = l.length := by simp at h1; omega
  rcases h2 with ⟨_, h3⟩ | ⟨g, cap, cur, h3, h4, h5, h6, h7, h8, h9⟩
  · omega
  · refine ⟨g, 0, cap, cur, by rw [← hl]; exact h3, h4, h5, by omega, by omega, fun j x hx => ?_⟩
    have hs : (l.map (Value.int .i64))[j]? = some (.int .i64 x) := by simp [hx]
    rw [← h9, List.getElem?_take] at hs
    rw [Nat.zero_add]
    split at hs
    · simpa using hs
    · cases hs

theorem wpList_append_que {P : Program} {ops : Array Oper} {rest : List Oper} {o : Oper} {a : Act} {w : World} {Q : Exit → Act → World → Prop} (hgd : o.guard = none) (s x : Operand) (t : TypeId)
    (ho : o.op = .call { callee := .builtin .append, args := #[s, x], argTypes := #[t, t] }) (i : TypeInfo) (ht : P.underlying t = some (.slice 3)) (hi : P.info? 3 = some i) (hz : i.zero = some (.int .i64 0)) (hs1 : i.size = 1) (hb8 : i.bytes = 8)
    (B : Nat) (v : Value) (l : List Int) (hs : a.eval s = v) (hq : Que w B v l) (z : Int) (ad : Addr) (c : Nat) (hx : a.eval x = .slice (some ad) 1 c) (hc : ∀ j u, [Value.int .i64 z][j]? = some u → w.cell? (ad.add j) = some u) (hlen : l.length ≤ 1000) (hB : B ≤ w.heap.size)
    (hK : ∀ v' w', Que w' B v' (l ++ [z]) → w.grownBy w' v.ownBlock → (v'.ownBlock = v.ownBlock ∨ ∃ k, v'.ownBlock = some k ∧ w.heap.size ≤ k) → wpList P ops Q rest (a.put o.dst v') w') :
    wpList P ops Q (o :: rest) a w := by
  obtain ⟨g, off, cap, row, rfl, h2, h3, h4, h5, h6⟩ := hq
  have hcell : ∀ j u, (l.map (Value.int .i64))[j]? = some u → w.cell? ⟨g, off + j, none⟩ = some u := by
    intro j u hu
    rw [cell_of_row w g _ row 3 (0, 0) h3]
    simp only [List.getElem?_map, Option.map_eq_some_iff] at hu
    obtain ⟨y, hy, rfl⟩ := hu
    exact h6 j y hy
  refine wpList_append_arg (P := P) w hgd s x t ho 3 i _ 1 8 ht hi hz hs1 hb8 rfl (by omega) g off l.length cap (l.map (Value.int .i64)) hs (by simp) hcell ad 1 c [.int .i64 z] hx rfl hc (by simp [Value.oneCell']) ?_ (by unfold maxLen; omega) (by omega) ?_ ?_
  · intro hr j hj
    have hj0 : j = 0 := by simp at hj; omega
    subst hj0
    have hlt : off + l.length * 1 + 0 < row.size := by omega
    refine ⟨?_, ?_⟩
    · rw [cell_of_row w g _ row 3 (0, 0) h3, Array.getElem?_eq_getElem hlt]
      rfl
    · simp [World.frozen?, h3]
  · intro hr
    refine hK _ _ ?_ ?_ (.inl rfl)
    · refine ⟨g, off, cap, row.setIfInBounds (off + l.length * 1) (.int .i64 z), by simp, h2, ?_, by simpa using h4, by simpa using hr, fun j y hy => ?_⟩
      · show ((w.setCell ⟨g, off + l.length * 1, none⟩ (.int .i64 z))).heap[g]? = _
        have hbk : Blk w g 3 row := h3
        exact hbk.store (off + l.length * 1) (.int .i64 z)
      · rw [List.getElem?_append] at hy
        rw [Nat.mul_one, Array.getElem?_setIfInBounds]
        split at hy
        · rw [if_neg (by omega)]
          exact h6 j y hy
        · have hj : j - l.length = 0 := by
            rcases Nat.eq_zero_or_pos (j - l.length) with h0 | h0
            · exact h0
            · rw [List.getElem?_eq_none (by simp; omega)] at hy; cases hy
          rw [hj] at hy
          have hy' : z = y := by simpa using hy
          rw [if_pos (by omega), if_pos (by omega), hy']
    · refine ⟨rfl, rfl, rfl, by simp [World.setCells, World.setCell], fun k hk hne => ?_⟩
      exact Below.heap_setCell w ⟨g, off + l.length * 1, none⟩ (.int .i64 z) k (fun e => hne (by simp [Value.ownBlock, e]))
  · intro hr v' w' hown hg
    have hq' : Que w' w.heap.size v' (l ++ [z]) := que_own (by rw [List.map_append]; exact hown) (by omega)
    obtain ⟨k, hk1, hk2, hk3⟩ := hq'.lt
    refine hK _ _ ?_ ⟨hg.os, hg.tape, hg.output, hg.size, fun i hi _ => hg.block i hi (by simp)⟩ (.inr ⟨k, hk1, hk2⟩)
    obtain ⟨g', off', cap', row', e1, e2, e3⟩ := hq'
    exact ⟨g', off', cap', row', e1, Nat.le_trans hB e2, e3⟩

/-! ### The two sides -/
namespace Sides
open Life

abbrev Cfg := Int × Int × List Int × List Int

def step : Cfg → Nat → Cfg
  | (a, b, p, q), 0 => (evs a 2, b, if evc a 2 = 0 then p ++ [3] else p, q)
  | (a, b, p, q), 1 => (evs a 4, b, if evc a 4 = 0 then p ++ [5] else p, q)
  | (a, b, p, q), 2 => (a, evs b 2, p, if evc b 2 = 0 then q ++ [3] else q)
  | (a, b, p, q), 3 => (a, evs b 4, p, if evc b 4 = 0 then q ++ [5] else q)
  | (a, b, [], q), 4 => (a, b, [], q)
  | (a, b, x :: p, q), 4 => (a, evs b x, p, q)
  | (a, b, p, []), _ => (a, b, p, [])
  | (a, b, p, x :: q), _ => (evs a x, b, p, q)

def reach : List Cfg := [(1, 0, [1], []), (1, 1, [], []), (1, 2, [], [3]), (1, 4, [], [3, 5]), (1, 4, [], [5]), (2, 0, [1, 3], []), (2, 1, [3], []), (2, 2, [3], [3]), (2, 3, [], []), (2, 4, [], [3]), (2, 4, [], [3, 5]), (2, 4, [], [5]), (2, 4, [3], [3, 5]), (2, 4, [3], [5]), (3, 2, [], []), (3, 4, [], [5]), (4, 0, [1, 3, 5], []), (4, 0, [1, 5], []), (4, 1, [3, 5], []), (4, 1, [5], []), (4, 2, [3], []), (4, 2, [3, 5], []), (4, 2, [3, 5], [3]), (4, 2, [5], []), (4, 2, [5], [3]), (4, 3, [5], []), (4, 4, [], []), (4, 4, [], [3]), (4, 4, [], [3, 5]), (4, 4, [], [5]), (4, 4, [3], []), (4, 4, [3], [5]), (4, 4, [3, 5], []), (4, 4, [3, 5], [3, 5]), (4, 4, [3, 5], [5]), (4, 4, [5], []), (4, 4, [5], [3]), (4, 4, [5], [3, 5]), (4, 4, [5], [5])]

def final (c : Cfg) : Bool :=
  let b := c.2.2.1.foldl evs c.2.1
  let a := c.2.2.2.foldl evs c.1
  (a == b && (a == 1 || a == 4)) || (a == 2 && b == 3) || (a == 3 && b == 2)

theorem reach_step : ∀ c ∈ reach, ∀ r, r < 6 → step c r ∈ reach := by
  have h : (reach.all fun c => (List.range 6).all fun r => decide (step c r ∈ reach)) = true := by kernel_rfl
  intro c hc r hr
  rw [List.all_eq_true] at h
  have h2 := h c hc
  rw [List.all_eq_true] at h2
  exact of_decide_eq_true (h2 r (List.mem_range.2 hr))

theorem reach_final : ∀ c ∈ reach, final c = true := by
  have h : (reach.all final) = true := by kernel_rfl
  intro c hc
  rw [List.all_eq_true] at h
  exact h c hc

def small (c : Cfg) : Bool := (decide (0 ≤ c.1) && decide (c.1 ≤ 4)) && (decide (0 ≤ c.2.1) && decide (c.2.1 ≤ 4)) && (decide (c.2.2.1.length ≤ 3) && decide (c.2.2.2.length ≤ 3))
theorem reach_small : ∀ c ∈ reach, small c = true := by
  have h : (reach.all small) = true := by kernel_rfl
  intro c hc
  rw [List.all_eq_true] at h
  exact h c hc

end Sides
end Go.Proofs.Ytmjkfiadbllkfaa
