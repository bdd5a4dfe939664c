/-
  Words that the walks and the frames of this seat share: what the cells behind an argument are; a block that is known whole.
-/
import Derived.Test.YtebiidfpgdolnaaRows
import Derived.WalkKit
import Derived.ProofKit
import Derived.OpenShut
import Derived.ShutString
import Derived.ChangeOld
import Derived.Below
import Derived.Carry
import Derived.WalkSpells
import Derived.WalkLawsBesides
import Derived.Laws.EntriesVeiled
import Derived.Lib.Hide
import Derived.Lib.SmallJoins
import Derived.Deep.Slices
import Derived.Deep.Fields
import Derived.Deep.LoopGhost
import Derived.Deep.DeepCutAuto
import Derived.Deep.QuietTactic
import Derived.BigQuiet
import Derived.Deep.RegionWith
import Derived.Outline
namespace Go.Proofs.Ytebiidfpgdolnaa
open Go.ChangeShapes Go.WideShapes Go.ChangeAt Go.RowKit Go.Deep
open Go.ChangeMaps (open_string shut_string)

/-! ### What the cells behind an argument are -/
def IsInt (k : IntKind) (v : Value) : Prop := ∃ n : Int, v = .int k n ∧ (Lit.int k n).wf = true
def IsBool (v : Value) : Prop := ∃ b : Bool, v = .bool b
def IsStr (v : Value) : Prop := ∃ s : ByteArray, v = .string s ∧ s.size ≤ maxLen

/-- The cells fit a list of predicates, one by one. -/
def Good (ps : List (Value → Prop)) (cs : List Value) : Prop :=
  cs.length = ps.length ∧ ∀ (j : Nat) (p : Value → Prop), ps[j]? = some p → ∃ v, cs[j]? = some v ∧ p v

/-- A slice of n elements, each of which is a row of cells that fit. -/
def Elems (w : World) (a : Option Addr) (n : Nat) (ps : List (Value → Prop)) : Prop :=
  0 < n → ∃ b off, a = some ⟨b, off, none⟩ ∧ b < w.heap.size ∧
    ∀ i, i < n → ∀ (j : Nat) (p : Value → Prop), ps[j]? = some p → ∃ v, w.cell? ⟨b, off + i * ps.length + j, none⟩ = some v ∧ p v

def IsSlice (w : World) (ps : List (Value → Prop)) (v : Value) : Prop :=
  ∃ a n c, v = .slice a n c ∧ n ≤ c ∧ c ≤ maxLen ∧ Elems w a n ps

section
variable {H : Type} {enc : TypeId × Value → H} {P : Program} {w : World} {base : Nat} {spare : Nat → Bool} {held : Bool}

theorem good_one {p : Value → Prop} {v : Value} (h : p v) : Good [p] [v] := by
  refine ⟨rfl, fun j q hj => ?_⟩
  match j, hj with
  | 0, hj => simp at hj; subst hj; exact ⟨v, rfl, h⟩

theorem good_int {k : IntKind} {t : TypeId} (ht : P.underlying t = some (.int k)) (n : Nat) (cs : List Value) (x : DataW H × List MemPlace)
    (h : DataW.trod enc P w base spare held n t cs = some x) : Good [IsInt k] cs := by
  obtain ⟨m, rfl, _, hw⟩ := DataW.trod_int ht h
  exact good_one ⟨m, rfl, hw⟩

theorem good_bool {t : TypeId} (ht : P.underlying t = some .bool) (n : Nat) (cs : List Value) (x : DataW H × List MemPlace)
    (h : DataW.trod enc P w base spare held n t cs = some x) : Good [IsBool] cs := by
  obtain ⟨m, rfl, _⟩ := DataW.trod_bool ht h
  exact good_one ⟨m, rfl⟩

theorem good_str {t : TypeId} (ht : P.underlying t = some .string) (n : Nat) (cs : List Value) (x : DataW H × List MemPlace)
    (h : DataW.trod enc P w base spare held n t cs = some x) : Good [IsStr] cs := by
  obtain ⟨m, rfl, _, hs⟩ := DataW.trod_string ht h
  exact good_one ⟨m, rfl, hs⟩

/-- A slice whose elements' cells fit: its own one cell fits. -/
theorem good_slice {t e : TypeId} {ps : List (Value → Prop)} (ht : P.underlying t = some (.slice e)) (hC : P.cellsOf e = ps.length) (hps : 0 < ps.length)
    (hel : ∀ n cs x, DataW.trod enc P w base spare held n e cs = some x → Good ps cs) (n : Nat) (cs : List Value) (x : DataW H × List MemPlace)
    (h : DataW.trod enc P w base spare held n t cs = some x) : Good [IsSlice w ps] cs := by
  rcases open_slice ht h with ⟨rfl, _⟩ | ⟨a, len, cap, m, n', D, Pl, rfl, hb, hl, hm, hmm, _, hi⟩
  · exact good_one ⟨none, 0, 0, rfl, Nat.le_refl _, Nat.zero_le _, fun h0 => absurd h0 (by omega)⟩
  · refine good_one ⟨some a, len, cap, rfl, hl, hm, fun h0 => ?_⟩
    have hle : len ≤ m := by rw [hmm]; split <;> omega
    have key : ∀ i, i < len → ∀ (j : Nat) (p : Value → Prop), ps[j]? = some p → ∃ v, w.cell? (a.add (i * ps.length + j)) = some v ∧ p v := by
      intro i hil j p hp
      obtain ⟨cs', hc, ht'⟩ := hi i (by omega)
      obtain ⟨hlen, hg⟩ := hel _ _ _ ht'
      obtain ⟨v, hv, hpv⟩ := hg j p hp
      obtain ⟨_, hcl, hat⟩ := World.cells?_some hc
      have hj : j < ps.length := (List.getElem?_eq_some_iff.1 hp).1
      have h1 := hat j (by rw [hC]; exact hj)
      rw [← Go.Deep.add_add, hC] at *
      exact ⟨v, by rw [h1, hv], hpv⟩
    obtain ⟨b, off, spot⟩ := a
    obtain ⟨p0, hp0⟩ : ∃ p, ps[0]? = some p := ⟨ps[0], List.getElem?_eq_getElem hps⟩
    obtain ⟨v0, hv0, _⟩ := key 0 h0 0 p0 hp0
    have hspot : spot = none := by
      have := World.cell?_spot hv0
      simpa [Addr.add] using this
    subst hspot
    refine ⟨b, off, rfl, ?_, fun i hil j p hp => ?_⟩
    · rcases Nat.lt_or_ge b w.heap.size with hlt | hge
      · exact hlt
      · exfalso
        have e : w.heap[b]? = none := Array.getElem?_eq_none hge
        simp [Addr.add, World.cell?, e] at hv0
    · obtain ⟨v, hv, hpv⟩ := key i hil j p hp
      refine ⟨v, ?_, hpv⟩
      rw [← hv, Nat.add_assoc]
      unfold Addr.add
      split <;> simp_all

/-- A struct of one-cell fields, each of which fits. -/
theorem good_struct {t : TypeId} {fs : Array Field} {ps : List (Value → Prop)} (ht : P.underlying t = some (.struct fs)) (hone : oneCellFields P fs = true)
    (hC : P.cellsOf t = fs.size) (hlen : ps.length = fs.size)
    (hf : ∀ (j : Nat) (f : Field) (p : Value → Prop), fs[j]? = some f → ps[j]? = some p → ∀ n cs x, DataW.trod enc P w base spare held n f.type cs = some x → Good [p] cs)
    (n : Nat) (cs : List Value) (x : DataW H × List MemPlace) (h : DataW.trod enc P w base spare held n t cs = some x) : Good ps cs := by
  obtain ⟨xs, n', _, _, hcl, hxl, hat⟩ := DataW.trod_struct ht h
  refine ⟨by rw [hcl, hC, hlen], fun j p hp => ?_⟩
  have hj : j < fs.size := by have := (List.getElem?_eq_some_iff.1 hp).1; omega
  have hfj : fs[j]? = some fs[j] := Array.getElem?_eq_getElem hj
  obtain ⟨ho, hk⟩ := hone_of hone j _ hfj
  have h1 := hat j _ hfj
  have hys : xs[j]? = some (xs[j]'(by omega)) := List.getElem?_eq_getElem (by omega)
  rw [ho, hk, hys] at h1
  have hone' : (cs.drop j).take 1 = [cs[j]'(by omega)] := by
    rw [List.drop_eq_getElem_cons (by omega)]
    rfl
  rw [hone'] at h1
  obtain ⟨_, hg⟩ := hf j _ p hfj hp _ _ _ h1
  obtain ⟨v, hv, hpv⟩ := hg 0 p rfl
  simp at hv
  subst hv
  exact ⟨_, List.getElem?_eq_getElem (by omega), hpv⟩

end

/-! ### Out of the cells behind a slice a list -/
theorem list_of {α : Type} (n : Nat) (P : Nat → α → Prop) (h : ∀ i, i < n → ∃ x, P i x) : ∃ l : List α, l.length = n ∧ ∀ i x, l[i]? = some x → P i x := by
  induction n with
  | zero => exact ⟨[], rfl, fun i x hx => by simp at hx⟩
  | succ n ih =>
    obtain ⟨l, hl, hp⟩ := ih (fun i hi => h i (by omega))
    obtain ⟨y, hy⟩ := h n (by omega)
    refine ⟨l ++ [y], by simp [hl], fun i x hx => ?_⟩
    rw [List.getElem?_append] at hx
    split at hx
    · exact hp i x hx
    · have hi : i - l.length = 0 := by
        rcases Nat.eq_zero_or_pos (i - l.length) with h0 | h0
        · exact h0
        · rw [List.getElem?_eq_none (by simp; omega)] at hx; cases hx
      rw [hi] at hx
      simp at hx
      subst hx
      have : i = n := by omega
      rw [this]
      exact hy

/-! ### A block that is known whole -/
def Blk (w : World) (g : Nat) (t : TypeId) (cs : Array Value) : Prop := w.heap[g]? = some (.cells cs t (0, 0))

section
variable {w w' : World} {g : Nat} {t : TypeId} {cs : Array Value}
theorem Blk.lt (h : Blk w g t cs) : g < w.heap.size := lt_of_block h
theorem Blk.cell (h : Blk w g t cs) (i : Nat) : w.cell? ⟨g, i, none⟩ = cs[i]? := cell_of_row w g i cs t (0, 0) h
theorem Blk.frozen (h : Blk w g t cs) (i : Nat) : w.frozen? ⟨g, i, none⟩ = false := by
  unfold Blk at h
  simp [World.frozen?, h]
theorem Blk.eq {ds : Array Value} (h : Blk w g t cs) (e : cs = ds) : Blk w g t ds := e ▸ h
theorem Blk.new (w : World) (t : TypeId) (cs : Array Value) : Blk (w.alloc (.cells cs t)) w.heap.size t cs := heap_alloc_new w _
theorem Blk.drew (h : Blk w g t cs) : Blk w.drew g t cs := h
theorem Blk.drewN (h : Blk w g t cs) (n : Nat) : Blk (w.drewN n) g t cs := h
theorem Blk.alloc (h : Blk w g t cs) (o : Obj) : Blk (w.alloc o) g t cs := (Below.heap_alloc w o g h.lt).trans h
theorem Blk.store (h : Blk w g t cs) (i : Nat) (u : Value) : Blk (w.setCell ⟨g, i, none⟩ u) g t (cs.setIfInBounds i u) := by
  unfold Blk at h ⊢
  simp [World.setCell, Array.getElem?_modify, h]
theorem Blk.far (h : Blk w g t cs) {p : Addr} (hp : g ≠ p.block) (u : Value) : Blk (w.setCell p u) g t cs := (Below.heap_setCell w p u g hp).trans h
theorem Blk.below {B : Nat} (h : Blk w g t cs) (hb : Below B w w') (hg : g < B) : Blk w' g t cs := (hb.block g hg).trans h
theorem Blk.grown {row : Option Nat} (h : Blk w g t cs) (hb : w.grownBy w' row) (hg : some g ≠ row) : Blk w' g t cs := (hb.block g h.lt hg).trans h
end

/-! ### Draws outermost -/
@[go_sem] theorem setCell_drewN (w : World) (n : Nat) (a : Addr) (v : Value) : (w.drewN n).setCell a v = (w.setCell a v).drewN n := rfl
@[go_sem] theorem alloc_drewN (w : World) (n : Nat) (o : Obj) : (w.drewN n).alloc o = (w.alloc o).drewN n := rfl

/-! ### Only block g, and what is new, has turned: 'a.grownBy w (some g)', step by step -/
theorem only_trans {a b c : World} {row : Option Nat} (h : a.grownBy b row) (k : b.grownBy c row) : a.grownBy c row :=
  ⟨k.os.trans h.os, k.tape.trans h.tape, k.output.trans h.output, Nat.le_trans h.size k.size, fun i hi hn => (k.block i (Nat.lt_of_lt_of_le hi h.size) hn).trans (h.block i hi hn)⟩
theorem only_drew {a w : World} {row : Option Nat} (h : a.grownBy w row) : a.grownBy w.drew row := ⟨h.os, h.tape, h.output, h.size, h.block⟩
theorem only_drewN {a w : World} {row : Option Nat} (h : a.grownBy w row) (n : Nat) : a.grownBy (w.drewN n) row := ⟨h.os, h.tape, h.output, h.size, h.block⟩
theorem only_alloc {a w : World} {row : Option Nat} (h : a.grownBy w row) (o : Obj) : a.grownBy (w.alloc o) row :=
  ⟨h.os, h.tape, h.output, Nat.le_trans h.size (by simp), fun i hi hne => (Below.heap_alloc w o i (Nat.lt_of_lt_of_le hi h.size)).trans (h.block i hi hne)⟩
theorem only_setCell {a w : World} {g : Nat} (h : a.grownBy w (some g)) {p : Addr} (hp : p.block = g ∨ a.heap.size ≤ p.block) (u : Value) : a.grownBy (w.setCell p u) (some g) :=
  ⟨h.os, h.tape, h.output, by simpa [World.setCell] using h.size, fun i hi hne => (Below.heap_setCell w p u i (by
    rintro rfl
    rcases hp with hp | hp
    · exact hne (by rw [hp])
    · omega)).trans (h.block i hi hne)⟩
theorem only_new {a w : World} (h : Below a.heap.size a w) (row : Option Nat) : a.grownBy w row := ⟨h.os, h.tape, h.output, h.size, fun i hi _ => h.block i hi⟩
theorem only_mono {a w : World} (h : a.grownBy w none) (row : Option Nat) : a.grownBy w row := ⟨h.os, h.tape, h.output, h.size, fun i hi _ => h.block i hi (by simp)⟩
theorem below_only {B : Nat} {a w w' : World} {g : Nat} (h : Below B a w) (hg : w.grownBy w' (some g)) (hB : B ≤ g) (hs : B ≤ w.heap.size) : Below B a w' :=
  h.grown hg hs (fun k hk => by injection hk with hk; omega)

end Go.Proofs.Ytebiidfpgdolnaa
