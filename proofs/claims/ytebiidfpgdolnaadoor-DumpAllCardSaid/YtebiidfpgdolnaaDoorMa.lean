import Derived.Test.YtebiidfpgdolnaaDoorRows
import Derived.WalkKit
import Derived.ProofKit
import Derived.OpenShut
import Derived.ShutString
import Derived.ChangeOld
import Derived.Below
import Derived.Carry
import Derived.WalkSpells
import Derived.WalkLawsBesides
import Derived.Laws.EntriesVeiled
import Derived.Lib.Hide
import Derived.Lib.SmallJoins
import Derived.Deep.Slices
import Derived.Deep.Fields
import Derived.Deep.LoopGhost
import Derived.Deep.DeepCutAuto
import Derived.Deep.QuietTactic
import Derived.BigQuiet
import Derived.Deep.RegionWith
import Derived.Outline
import Derived.Laws.IdiomStrings
import Derived.Laws.BytesArg
import Derived.Laws.Concat
import Derived.OwnWalk
import Derived.ArgAppend
import Derived.IntWalk
import Derived.Deep.WholeRow
import Derived.Deep.RegionHeld3
/-
  Words that the walks and the frames of this seat share: what the cells behind an argument are; a block that is known whole.
-/
namespace Go.Proofs.YtebiidfpgdolnaaDoor
open Go.ChangeShapes Go.WideShapes Go.ChangeAt Go.RowKit Go.Deep
open Go.ChangeMaps (open_string shut_string)

/-! ### What the cells behind an argument are -/
def IsInt (k : IntKind) (v : Value) : Prop := ∃ n : Int, v = .int k n ∧ (Lit.int k n).wf = true
def IsBool (v : Value) : Prop := ∃ b : Bool, v = .bool b
def IsStr (v : Value) : Prop := ∃ s : ByteArray, v = .string s ∧ s.size ≤ maxLen

/-- The cells fit a list of predicates, one by one. -/
def Good (ps : List (Value → Prop)) (cs : List Value) : Prop :=
  cs.length = ps.length ∧ ∀ (j : Nat) (p : Value → Prop), ps[j]? = some p → ∃ v, cs[j]? = some v ∧ p v

/-- A slice of n elements, each of which is a row of cells that fit. -/
def Elems (w : World) (a : Option Addr) (n : Nat) (ps : List (Value → Prop)) : Prop :=
  0 < n → ∃ b off, a = some ⟨b, off, none⟩ ∧ b < w.heap.size ∧
    ∀ i, i < n → ∀ (j : Nat) (p : Value → Prop), ps[j]? = some p → ∃ v, w.cell? ⟨b, off + i * ps.length + j, none⟩ = some v ∧ p v

def IsSlice (w : World) (ps : List (Value → Prop)) (v : Value) : Prop :=
  ∃ a n c, v = .slice a n c ∧ n ≤ c ∧ c ≤ maxLen ∧ Elems w a n ps

section
variable {H : Type} {enc : TypeId × Value → H} {P : Program} {w : World} {base : Nat} {spare : Nat → Bool} {held : Bool}

theorem good_one {p : Value → Prop} {v : Value} (h : p v) : Good [p] [v] := by
  refine ⟨rfl, fun j q hj => ?_⟩
  match j, hj with
  | 0, hj => simp at hj; subst hj; exact ⟨v, rfl, h⟩

theorem good_int {k : IntKind} {t : TypeId} (ht : P.underlying t = some (.int k)) (n : Nat) (cs : List Value) (x : DataW H × List MemPlace)
    (h : DataW.trod enc P w base spare held n t cs = some x) : Good [IsInt k] cs := by
  obtain ⟨m, rfl, _, hw⟩ := DataW.trod_int ht h
  exact good_one ⟨m, rfl, hw⟩

theorem good_bool {t : TypeId} (ht : P.underlying t = some .bool) (n : Nat) (cs : List Value) (x : DataW H × List MemPlace)
    (h : DataW.trod enc P w base spare held n t cs = some x) : Good [IsBool] cs := by
  obtain ⟨m, rfl, _⟩ := DataW.trod_bool ht h
  exact good_one ⟨m, rfl⟩

theorem good_str {t : TypeId} (ht : P.underlying t = some .string) (n : Nat) (cs : List Value) (x : DataW H × List MemPlace)
    (h : DataW.trod enc P w base spare held n t cs = some x) : Good [IsStr] cs := by
  obtain ⟨m, rfl, _, hs⟩ := DataW.trod_string ht h
  exact good_one ⟨m, rfl, hs⟩

/-- A slice whose elements' cells fit: its own one cell fits. -/
theorem good_slice {t e : TypeId} {ps : List (Value → Prop)} (ht : P.underlying t = some (.slice e)) (hC : P.cellsOf e = ps.length) (hps : 0 < ps.length)
    (hel : ∀ n cs x, DataW.trod enc P w base spare held n e cs = some x → Good ps cs) (n : Nat) (cs : List Value) (x : DataW H × List MemPlace)
    (h : DataW.trod enc P w base spare held n t cs = some x) : Good [IsSlice w ps] cs := by
  rcases open_slice ht h with ⟨rfl, _⟩ | ⟨a, len, cap, m, n', D, Pl, rfl, hb, hl, hm, hmm, _, hi⟩
  · exact good_one ⟨none, 0, 0, rfl, Nat.le_refl _, Nat.zero_le _, fun h0 => absurd h0 (by omega)⟩
  · refine good_one ⟨some a, len, cap, rfl, hl, hm, fun h0 => ?_⟩
    have hle : len ≤ m := by rw [hmm]; split <;> omega
    have key : ∀ i, i < len → ∀ (j : Nat) (p : Value → Prop), ps[j]? = some p → ∃ v, w.cell? (a.add (i * ps.length + j)) = some v ∧ p v := by
      intro i hil j p hp
      obtain ⟨cs', hc, ht'⟩ := hi i (by omega)
      obtain ⟨hlen, hg⟩ := hel _ _ _ ht'
      obtain ⟨v, hv, hpv⟩ := hg j p hp
      obtain ⟨_, hcl, hat⟩ := World.cells?_some hc
      have hj : j < ps.length := (List.getElem?_eq_some_iff.1 hp).1
      have h1 := hat j (by rw [hC]; exact hj)
      rw [← Go.Deep.add_add, hC] at *
      exact ⟨v, by rw [h1, hv], hpv⟩
    obtain ⟨b, off, spot⟩ := a
    obtain ⟨p0, hp0⟩ : ∃ p, ps[0]? = some p := ⟨ps[0], List.getElem?_eq_getElem hps⟩
    obtain ⟨v0, hv0, _⟩ := key 0 h0 0 p0 hp0
    have hspot : spot = none := by
      have := World.cell?_spot hv0
      simpa [Addr.add] using this
    subst hspot
    refine ⟨b, off, rfl, ?_, fun i hil j p hp => ?_⟩
    · rcases Nat.lt_or_ge b w.heap.size with hlt | hge
      · exact hlt
      · exfalso
        have e : w.heap[b]? = none := Array.getElem?_eq_none hge
        simp [Addr.add, World.cell?, e] at hv0
    · obtain ⟨v, hv, hpv⟩ := key i hil j p hp
      refine ⟨v, ?_, hpv⟩
      rw [← hv, Nat.add_assoc]
      unfold Addr.add
      split <;> simp_all

/-- A struct of one-cell fields, each of which fits. -/
theorem good_struct {t : TypeId} {fs : Array Field} {ps : List (Value → Prop)} (ht : P.underlying t = some (.struct fs)) (hone : oneCellFields P fs = true)
    (hC : P.cellsOf t = fs.size) (hlen : ps.length = fs.size)
    (hf : ∀ (j : Nat) (f : Field) (p : Value → Prop), fs[j]? = some f → ps[j]? = some p → ∀ n cs x, DataW.trod enc P w base spare held n f.type cs = some x → Good [p] cs)
    (n : Nat) (cs : List Value) (x : DataW H × List MemPlace) (h : DataW.trod enc P w base spare held n t cs = some x) : Good ps cs := by
  obtain ⟨xs, n', _, _, hcl, hxl, hat⟩ := DataW.trod_struct ht h
  refine ⟨by rw [hcl, hC, hlen], fun j p hp => ?_⟩
  have hj : j < fs.size := by have := (List.getElem?_eq_some_iff.1 hp).1; omega
  have hfj : fs[j]? = some fs[j] := Array.getElem?_eq_getElem hj
  obtain ⟨ho, hk⟩ := hone_of hone j _ hfj
  have h1 := hat j _ hfj
  have hys : xs[j]? = some (xs[j]'(by omega)) := List.getElem?_eq_getElem (by omega)
  rw [ho, hk, hys] at h1
  have hone' : (cs.drop j).take 1 = [cs[j]'(by omega)] := by
    rw [List.drop_eq_getElem_cons (by omega)]
    rfl
  rw [hone'] at h1
  obtain ⟨_, hg⟩ := hf j _ p hfj hp _ _ _ h1
  obtain ⟨v, hv, hpv⟩ := hg 0 p rfl
  simp at hv
  subst hv
  exact ⟨_, List.getElem?_eq_getElem (by omega), hpv⟩

end

/-! ### Out of the cells behind a slice a list -/
theorem list_of {α : Type} (n : Nat) (P : Nat → α → Prop) (h : ∀ i, i < n → ∃ x, P i x) : ∃ l : List α, l.length = n ∧ ∀ i x, l[i]? = some x → P i x := by
  induction n with
  | zero => exact ⟨[], rfl, fun i x hx => by simp at hx⟩
  | succ n ih =>
    obtain ⟨l, hl, hp⟩ := ih (fun i hi => h i (by omega))
    obtain ⟨y, hy⟩ := h n (by omega)
    refine ⟨l ++ [y], by simp [hl], fun i x hx => ?_⟩
    rw [List.getElem?_append] at hx
    split at hx
    · exact hp i x hx
    · have hi : i - l.length = 0 := by
        rcases Nat.eq_zero_or_pos (i - l.length) with h0 | h0
        · exact h0
        · rw [List.getElem?_eq_none (by simp; omega)] at hx; cases hx
      rw [hi] at hx
      simp at hx
      subst hx
      have : i = n := by omega
      rw [this]
      exact hy

/-! ### A block that is known whole -/
def Blk (w : World) (g : Nat) (t : TypeId) (cs : Array Value) : Prop := w.heap[g]? = some (.cells cs t (0, 0))

section
variable {w w' : World} {g : Nat} {t : TypeId} {cs : Array Value}
theorem Blk.lt (h : Blk w g t cs) : g < w.heap.size := lt_of_block h
theorem Blk.cell (h : Blk w g t cs) (i : Nat) : w.cell? ⟨g, i, none⟩ = cs[i]? := cell_of_row w g i cs t (0, 0) h
theorem Blk.frozen (h : Blk w g t cs) (i : Nat) : w.frozen? ⟨g, i, none⟩ = false := by
  unfold Blk at h
  simp [World.frozen?, h]
theorem Blk.eq {ds : Array Value} (h : Blk w g t cs) (e : cs = ds) : Blk w g t ds := e ▸ h
theorem Blk.new (w : World) (t : TypeId) (cs : Array Value) : Blk (w.alloc (.cells cs t)) w.heap.size t cs := heap_alloc_new w _
theorem Blk.drew (h : Blk w g t cs) : Blk w.drew g t cs := h
theorem Blk.drewN (h : Blk w g t cs) (n : Nat) : Blk (w.drewN n) g t cs := h
theorem Blk.alloc (h : Blk w g t cs) (o : Obj) : Blk (w.alloc o) g t cs := (Below.heap_alloc w o g h.lt).trans h
theorem Blk.store (h : Blk w g t cs) (i : Nat) (u : Value) : Blk (w.setCell ⟨g, i, none⟩ u) g t (cs.setIfInBounds i u) := by
  unfold Blk at h ⊢
  simp [World.setCell, Array.getElem?_modify, h]
theorem Blk.far (h : Blk w g t cs) {p : Addr} (hp : g ≠ p.block) (u : Value) : Blk (w.setCell p u) g t cs := (Below.heap_setCell w p u g hp).trans h
theorem Blk.below {B : Nat} (h : Blk w g t cs) (hb : Below B w w') (hg : g < B) : Blk w' g t cs := (hb.block g hg).trans h
theorem Blk.grown {row : Option Nat} (h : Blk w g t cs) (hb : w.grownBy w' row) (hg : some g ≠ row) : Blk w' g t cs := (hb.block g h.lt hg).trans h
end

/-! ### Draws outermost -/
@[go_sem] theorem setCell_drewN (w : World) (n : Nat) (a : Addr) (v : Value) : (w.drewN n).setCell a v = (w.setCell a v).drewN n := rfl
@[go_sem] theorem alloc_drewN (w : World) (n : Nat) (o : Obj) : (w.drewN n).alloc o = (w.alloc o).drewN n := rfl

/-! ### Only block g, and what is new, has turned: 'a.grownBy w (some g)', step by step -/
theorem only_trans {a b c : World} {row : Option Nat} (h : a.grownBy b row) (k : b.grownBy c row) : a.grownBy c row :=
  ⟨k.os.trans h.os, k.tape.trans h.tape, k.output.trans h.output, Nat.le_trans h.size k.size, fun i hi hn => (k.block i (Nat.lt_of_lt_of_le hi h.size) hn).trans (h.block i hi hn)⟩
theorem only_drew {a w : World} {row : Option Nat} (h : a.grownBy w row) : a.grownBy w.drew row := ⟨h.os, h.tape, h.output, h.size, h.block⟩
theorem only_drewN {a w : World} {row : Option Nat} (h : a.grownBy w row) (n : Nat) : a.grownBy (w.drewN n) row := ⟨h.os, h.tape, h.output, h.size, h.block⟩
theorem only_alloc {a w : World} {row : Option Nat} (h : a.grownBy w row) (o : Obj) : a.grownBy (w.alloc o) row :=
  ⟨h.os, h.tape, h.output, Nat.le_trans h.size (by simp), fun i hi hne => (Below.heap_alloc w o i (Nat.lt_of_lt_of_le hi h.size)).trans (h.block i hi hne)⟩
theorem only_setCell {a w : World} {g : Nat} (h : a.grownBy w (some g)) {p : Addr} (hp : p.block = g ∨ a.heap.size ≤ p.block) (u : Value) : a.grownBy (w.setCell p u) (some g) :=
  ⟨h.os, h.tape, h.output, by simpa [World.setCell] using h.size, fun i hi hne => (Below.heap_setCell w p u i (by
    rintro rfl
    rcases hp with hp | hp
    · exact hne (by rw [hp])
    · omega)).trans (h.block i hi hne)⟩
theorem only_new {a w : World} (h : Below a.heap.size a w) (row : Option Nat) : a.grownBy w row := ⟨h.os, h.tape, h.output, h.size, fun i hi _ => h.block i hi⟩
theorem only_mono {a w : World} (h : a.grownBy w none) (row : Option Nat) : a.grownBy w row := ⟨h.os, h.tape, h.output, h.size, fun i hi _ => h.block i hi (by simp)⟩
theorem below_only {B : Nat} {a w w' : World} {g : Nat} (h : Below B a w) (hg : w.grownBy w' (some g)) (hB : B ≤ g) (hs : B ≤ w.heap.size) : Below B a w' :=
  h.grown hg hs (fun k hk => by injection hk with hk; omega)

end Go.Proofs.YtebiidfpgdolnaaDoor

/-
  Words on bytes that lie in memory: a slice of bytes that reads as a list; a string turned into bytes, and back.
-/
namespace Go.Proofs.YtebiidfpgdolnaaDoor
open Go.ChangeShapes Go.WideShapes Go.ChangeAt Go.RowKit Go.Deep
set_option linter.unusedVariables false

/-- The slice value v reads as the bytes l, in blocks from B on, none of which is g. -/
def Bytes (w : World) (B g : Nat) (v : Value) (l : List UInt8) : Prop :=
  (∃ c, v = .slice none 0 c ∧ l = []) ∨
  ∃ h off c, v = .slice (some ⟨h, off, none⟩) l.length c ∧ l.length ≤ c ∧ B ≤ h ∧ h ≠ g ∧ h < w.heap.size ∧
    ∀ j u, l[j]? = some u → w.cell? ⟨h, off + j, none⟩ = some (.int .u8 (u.toNat : Int))

section
variable {w w' : World} {B g : Nat} {v : Value} {l : List UInt8}
theorem Bytes.keep (h : Bytes w B g v l) (hs : w.heap.size ≤ w'.heap.size) (hk : ∀ i, i < w.heap.size → i ≠ g → w'.heap[i]? = w.heap[i]?) : Bytes w' B g v l := by
  rcases h with h | ⟨b, off, c, h1, h2, h3, h4, h5, h6⟩
  · exact .inl h
  · refine .inr ⟨b, off, c, h1, h2, h3, h4, by omega, fun j u hu => ?_⟩
    rw [← h6 j u hu]
    exact World.cell?_of_block (hk b h5 h4)
theorem Bytes.grown (h : Bytes w B g v l) (hg : w.grownBy w' (some g)) : Bytes w' B g v l :=
  h.keep hg.size fun i hi hn => hg.block i hi (fun e => hn (by injection e))
theorem Bytes.below (h : Bytes w B g v l) (hg : Below w.heap.size w w') : Bytes w' B g v l :=
  h.keep hg.size fun i hi hn => hg.block i hi
theorem Bytes.len (h : Bytes w B g v l) : ∃ a c, v = .slice a l.length c ∧ l.length ≤ c := by
  rcases h with ⟨c, h1, rfl⟩ | ⟨b, off, c, h1, h2, _⟩
  · exact ⟨none, c, h1, Nat.zero_le _⟩
  · exact ⟨_, c, h1, h2⟩
end

/-- '[]byte(s)' in a walk: a new block; what lies in it. -/
theorem wpList_bytes_of {P : Program} {ops : Array Oper} {rest : List Oper} {op : Oper} {a : Act} {w : World} {Q : Exit → Act → World → Prop} (hgd : op.guard = none) (src dst e : TypeId) (x : Operand) (ho : op.op = .convert src dst x)
    (s : ByteArray) (hx : a.eval x = .string s) (hs : P.underlying src = some .string) (hd : P.underlying dst = some (.slice e)) (he : P.underlying e = some (.int .u8))
    (h : ∀ (cap : Nat) (w1 : World), s.size ≤ cap → Below w.heap.size w w1 → w1.heap.size = w.heap.size + 1 → (∀ B g, B ≤ w.heap.size → g < w.heap.size → Bytes w1 B g (.slice (some ⟨w.heap.size, 0, none⟩) s.size cap) s.data.toList) →
      wpList P ops Q rest (a.put op.dst (.slice (some ⟨w.heap.size, 0, none⟩) s.size cap)) w1) : wpList P ops Q (op :: rest) a w := by
  refine wpList_plain hgd fun _ hK => ?_
  unfold Oper.wp execOp
  simp only [ho, hx, Sem.run_bind, Sem.run_pure, Result.andThen_ok, run_bytes_of_string w src dst e s hs hd he]
  have hcap := grownCap_ge w s.size 0 e
  refine hK _ _ (h _ _ hcap (((Below.refl _ _).drew).alloc (Nat.le_refl _) _) (by simp) ?_)
  intro B g hB hg
  have hlen : s.data.toList.length = s.size := Array.length_toList
  refine .inr ⟨w.heap.size, 0, _, by rw [hlen], by rw [hlen]; exact hcap, hB, by omega, by simp, fun j u hu => ?_⟩
  have hrow := cell_of_row (w.drew.alloc (.cells (bytesRow s (grownCap w s.size 0 e)) e ((bytesRow s (grownCap w s.size 0 e)).size, (bytesRow s (grownCap w s.size 0 e)).size + 1))) w.heap.size (0 + j) _ e _ (heap_alloc_new w.drew _)
  rw [hrow]
  have hj : j < s.data.size := by have := (List.getElem?_eq_some_iff.1 hu).1; simpa using this
  unfold bytesRow
  rw [Nat.zero_add, Array.getElem?_append_left (by simpa using hj)]
  simp only [Array.getElem?_map]
  have : s.data[j]? = some u := by simpa using hu
  rw [this]
  rfl

/-- 'string(b)': the bytes that it reads as. -/
theorem run_string_of {P : Program} {w : World} {B g : Nat} {v : Value} {l : List UInt8} (h : Bytes w B g v l) (src dst e : TypeId) (hs : P.underlying src = some (.slice e)) (he : P.underlying e = some (.int .u8)) (hd : P.underlying dst = some .string) :
    (convert src dst v).run P w = .ok (.string ⟨l.toArray⟩) w := by
  rcases h with ⟨c, rfl, rfl⟩ | ⟨b, off, c, rfl, h2, h3, h4, h5, h6⟩
  · rw [run_convert_bytes_nil w src e hs he 0 c dst hd]
    rfl
  · refine run_convert_bytes_back w src dst e _ c l hs he hd fun j hj => ?_
    have hadd : (⟨b, off, none⟩ : Addr).add j = ⟨b, off + j, none⟩ := by unfold Addr.add; split <;> simp_all
    rw [hadd, h6 j _ (List.getElem?_eq_getElem hj)]

/-- A cut at the front: what is left. -/
theorem Bytes.front {w : World} {B g : Nat} {a : Option Addr} {n c k : Nat} {l : List UInt8} (h : Bytes w B g (.slice a n c) l) (hk : k ≤ n) :
    n = l.length ∧ Bytes w B g (.slice a k c) (l.take k) := by
  rcases h with ⟨c', h1, rfl⟩ | ⟨b, off, c', h1, h2, h3, h4, h5, h6⟩
  · injection h1 with e1 e2 e3
    subst e1; subst e2; subst e3
    obtain rfl : k = 0 := by omega
    exact ⟨rfl, .inl ⟨c, rfl, rfl⟩⟩
  · injection h1 with e1 e2 e3
    subst e1; subst e2; subst e3
    refine ⟨rfl, .inr ⟨b, off, c, by rw [List.length_take, Nat.min_eq_left hk], by rw [List.length_take]; omega, h3, h4, h5, fun j u hu => h6 j u ?_⟩⟩
    rw [List.getElem?_take] at hu
    split at hu
    · exact hu
    · cases hu

theorem bytes_mk (s : ByteArray) : (⟨s.data.toList.toArray⟩ : ByteArray) = s := rfl

end Go.Proofs.YtebiidfpgdolnaaDoor

namespace Go.Proofs.YtebiidfpgdolnaaDoor.Dmp
open Go.ChangeShapes Go.WideShapes Go.ChangeAt Go.RowKit Go.Deep
set_option linter.unusedVariables false
open Go.Lib
set_option linter.unusedSimpArgs false

theorem add_block (b : Addr) (j : Nat) : (b.add j).block = b.block := by unfold Addr.add; split <;> rfl

/-- The slice value v reads as these cells, n elements of 'size' cells each, in a block from lo on. -/
def RdL (w : World) (lo size : Nat) (v : Value) (n : Nat) (xs : List Value) : Prop :=
  ∃ ao cap, v = .slice ao n cap ∧ n ≤ cap ∧ xs.length = n * size ∧ (ao = none → n = 0 ∧ cap = 0) ∧
    ∀ b, ao = some b → 0 < n → b.spot = none ∧ lo ≤ b.block ∧ b.block < w.heap.size ∧ ∀ j u, xs[j]? = some u → w.cell? (b.add j) = some u

section
variable {w w' : World} {lo size n : Nat} {v : Value} {xs : List Value}
theorem RdL.nil (w : World) (lo size : Nat) : RdL w lo size (.slice none 0 0) 0 [] := ⟨none, 0, rfl, Nat.le_refl _, by simp, fun _ => ⟨rfl, rfl⟩, fun b hb => by cases hb⟩
theorem RdL.keep (h : RdL w lo size v n xs) (hs : w.heap.size ≤ w'.heap.size) (hk : ∀ i, i < w.heap.size → lo ≤ i → w'.heap[i]? = w.heap[i]?) : RdL w' lo size v n xs := by
  obtain ⟨ao, cap, h1, h2, h3, h4, h5⟩ := h
  refine ⟨ao, cap, h1, h2, h3, h4, fun b hb hn0 => ?_⟩
  obtain ⟨k1, k2, k3, k4⟩ := h5 b hb hn0
  refine ⟨k1, k2, by omega, fun j u hu => ?_⟩
  rw [← k4 j u hu]
  exact World.cell?_of_block (by rw [add_block]; exact hk _ k3 k2)
theorem RdL.grown {g : Nat} (h : RdL w lo size v n xs) (hg : w.grownBy w' (some g)) (hl : g < lo) : RdL w' lo size v n xs := h.keep hg.size fun i hi hn => hg.block i hi (fun e => by injection e; omega)
theorem RdL.below (h : RdL w lo size v n xs) (hb : Below w.heap.size w w') : RdL w' lo size v n xs := h.keep hb.size fun i hi _ => hb.block i hi
theorem RdL.owned {base : Nat} {e : TypeId} (h : w.ownsRow base e size v n xs) (hb : lo ≤ base) : RdL w lo size v n xs := by
  obtain ⟨h1, h2⟩ := h
  rcases h2 with ⟨rfl, rfl⟩ | ⟨b, cap, cur, rfl, h4, h5, h6, h7, h8, h9⟩
  · exact ⟨none, 0, rfl, Nat.le_refl _, h1, fun _ => ⟨rfl, rfl⟩, fun b hb => by cases hb⟩
  · refine ⟨_, cap, rfl, h6, h1, (fun e => by cases e), fun b' hb' _ => ?_⟩
    injection hb' with hb'
    subst hb'
    refine ⟨rfl, by simp; omega, lt_of_block h5, fun j u hu => ?_⟩
    exact World.ownsRow.cells (v := .slice (some ⟨b, 0, none⟩) n cap) ⟨h1, .inr ⟨b, cap, cur, rfl, h4, h5, h6, h7, h8, h9⟩⟩ rfl j u hu
theorem RdL.tail {h off cap : Nat} (hr : RdL w lo size (.slice (some ⟨h, off, none⟩) n cap) n xs) (hn : 0 < n) :
    RdL w lo size (.slice (if cap = 1 then some ⟨h, off, none⟩ else some ⟨h, off + size, none⟩) (n - 1) (cap - 1)) (n - 1) (xs.drop size) := by
  obtain ⟨ao, cap', h1, h2, h3, h4, h5⟩ := hr
  injection h1 with h1 _ h7
  subst h1 h7
  have hl : (xs.drop size).length = (n - 1) * size := by
    rw [List.length_drop, h3]
    obtain ⟨m, rfl⟩ : ∃ m, n = m + 1 := ⟨n - 1, by omega⟩
    rw [Nat.add_sub_cancel, Nat.add_mul, Nat.one_mul, Nat.add_sub_cancel]
  obtain ⟨k1, k2, k3, k4⟩ := h5 _ rfl hn
  by_cases hc : cap = 1
  · rw [if_pos hc]
    refine ⟨_, _, rfl, by omega, hl, (fun e => by cases e), fun b hb _ => ?_⟩
    injection hb with hb
    subst hb
    refine ⟨k1, k2, k3, fun j u hu => ?_⟩
    have : (xs.drop size).length = 0 := by rw [hl, show n - 1 = 0 by omega, Nat.zero_mul]
    rw [List.eq_nil_of_length_eq_zero this] at hu
    simp at hu
  · rw [if_neg hc]
    refine ⟨_, _, rfl, by omega, hl, (fun e => by cases e), fun b hb _ => ?_⟩
    injection hb with hb
    subst hb
    refine ⟨rfl, k2, k3, fun j u hu => ?_⟩
    rw [List.getElem?_drop] at hu
    have := k4 _ u hu
    rw [Addr.add_lit] at this ⊢
    rw [← this]
    congr 2
    omega
theorem RdL.some_of (h : RdL w lo size v n xs) (hn : 0 < n) : ∃ b off cap, v = .slice (some ⟨b, off, none⟩) n cap ∧ n ≤ cap ∧ lo ≤ b ∧ b < w.heap.size ∧ ∀ j u, xs[j]? = some u → w.cell? ⟨b, off + j, none⟩ = some u := by
  obtain ⟨ao, cap, rfl, h2, h3, h4, h5⟩ := h
  cases ao with
  | none => have := (h4 rfl).1; omega
  | some p =>
    obtain ⟨k1, k2, k3, k4⟩ := h5 p rfl hn
    obtain ⟨b, off, spot⟩ := p
    have hs : spot = none := k1
    subst hs
    exact ⟨b, off, cap, rfl, h2, k2, k3, fun j u hu => by have := k4 j u hu; rw [Addr.add_lit] at this; exact this⟩
theorem RdL.cap_of (h : RdL w lo size v n xs) : ∃ ao cap, v = .slice ao n cap ∧ n ≤ cap ∧ (ao = none → n = 0 ∧ cap = 0) ∧ ∀ b, ao = some b → ∀ j u, xs[j]? = some u → w.cell? (b.add j) = some u := by
  obtain ⟨ao, cap, rfl, h2, h3, h4, h5⟩ := h
  refine ⟨ao, cap, rfl, h2, h4, fun b hb j u hu => ?_⟩
  have hj := (List.getElem?_eq_some_iff.1 hu).1
  have hn : 0 < n := by
    rcases Nat.eq_zero_or_pos n with h0 | h0
    · rw [h0, Nat.zero_mul] at h3; omega
    · exact h0
  exact (h5 b hb hn).2.2.2 j u hu
end

theorem RdL.drewN {w : World} {lo size n : Nat} {v : Value} {xs : List Value} (h : RdL w lo size v n xs) (d : Nat) : RdL (w.drewN d) lo size v n xs := h.below (below_drewN (Below.refl _ _) d)

/-- A frame. -/
structure Fr where
  ty : Int
  st : Int
  en : Bool
  da : ByteArray
  ki : Int
  on : Int
  we : Int
  ex : Bool
  co : Int
  la : Int
  n : Int
  ps : List (Int × Int)

def prs (l : List (Int × Int)) : List Value := l.flatMap fun p => [.int .i64 p.1, .int .i64 p.2]
theorem prs_length (l : List (Int × Int)) : (prs l).length = l.length * 2 := by
  induction l with
  | nil => rfl
  | cons p l ih => show (prs l).length + 2 = _; rw [ih, List.length_cons]; omega
theorem prs_append (a b : List (Int × Int)) : prs (a ++ b) = prs a ++ prs b := by simp [prs]
theorem prs_at {l : List (Int × Int)} {i : Nat} {p : Int × Int} (h : l[i]? = some p) : (prs l)[i * 2]? = some (.int .i64 p.1) ∧ (prs l)[i * 2 + 1]? = some (.int .i64 p.2) := by
  induction l generalizing i with
  | nil => simp at h
  | cons q l ih =>
    cases i with
    | zero => simp at h; subst h; exact ⟨rfl, rfl⟩
    | succ i =>
      have := ih (i := i) (by simpa using h)
      have e : (i + 1) * 2 = i * 2 + 2 := by omega
      rw [e]
      exact this
/-- The settings of a frame, in memory. -/
def Ps (w : World) (v : Value) (ps : List (Int × Int)) : Prop := RdL w 0 2 v ps.length (prs ps)

def wiB (n lo hi : Int) : Bool := decide (lo ≤ n) && decide (n ≤ hi)
def numB (n : Int) : Bool := wiB n 0 2147483647

theorem within_any (n lo hi : Int) (w : World) : Calls Tryd.prog 62 #[.int .i64 n, .int .i64 lo, .int .i64 hi] w fun e w' => e = .returned (.bool (wiB n lo hi)) ∧ w = w' := by
  unfold wiB
  by_cases h1 : lo ≤ n <;> by_cases h2 : n ≤ hi
  all_goals
    go_enter Tryd.func62, Tryd.ntmps62
    go_wp2
    go_ret
    exact ⟨by simp [h1, h2], rfl⟩
theorem number_any (n : Int) (w : World) : Calls Tryd.prog 40 #[.int .i64 n] w fun e w' => e = .returned (.bool (numB n)) ∧ w = w' := by
  go_enter Tryd.func40, Tryd.ntmps40
  go_wp2_with fail
  refine (within_any n 0 2147483647 _).mono ?_
  rintro e w1 ⟨rfl, rfl⟩
  go_wp2_with fail
  go_ret
  exact ⟨rfl, rfl⟩

def zeroB (k : Int) : Bool := decide (5 ≤ k) && decide (k ≤ 10)
def oneB (k : Int) : Bool := decide (0 ≤ k) && decide (k ≤ 4) || decide (10 ≤ k) && decide (k ≤ 11)

end Go.Proofs.YtebiidfpgdolnaaDoor.Dmp

namespace Go.Proofs.YtebiidfpgdolnaaDoor.Dmp
open Go.ChangeShapes Go.WideShapes Go.ChangeAt Go.RowKit Go.Deep
set_option linter.unusedVariables false
open Go.Lib
set_option linter.unusedSimpArgs false

theorem wpList_store_new {P : Program} {ops : Array Oper} {rest : List Oper} {op : Oper} {a : Act} {w : World} {Q : Exit → Act → World → Prop} (hgd : op.guard = none) (ty : TypeId) (x y : Operand) (ho : op.op = .store ty x y)
    (c c' : Array Value) (hx : a.eval x = .pointer (some ⟨w.heap.size, 0, none⟩)) (hy : a.eval y = .agg c')
    (hi : (P.info? ty).map (·.size) = some c'.size) (hs : c.size = c'.size) (h1 : c'.all (·.oneCell') = true)
    (h : wpList P ops Q rest (a.put op.dst undef) (w.alloc (.cells c' ty))) : wpList P ops Q (op :: rest) a (w.alloc (.cells c ty)) := by
  refine wpList_plain hgd fun _ hK => ?_
  unfold Oper.wp execOp
  simp only [ho, hx, hy, Sem.run_bind, Sem.run_pure, Result.andThen_ok, run_storeAt_new w ty c c' hi hs h1]
  exact hK _ _ h

/-- A struct or array that is built, its value known by a closed run. -/
theorem wpList_build_known {P : Program} {ops : Array Oper} {rest : List Oper} {op : Oper} {a : Act} {w : World} {Q : Exit → Act → World → Prop} (hgd : op.guard = none) (t : TypeId) (parts : Array (Nat × Operand)) (ho : op.op = .build t parts)
    (vals : Array (Nat × Value)) (hv : (parts.map fun (i, x) => (i, a.eval x)) = vals) (r : Value) (hrun : ∀ w, (Instr.build t vals).run P w = .ok r w)
    (h : wpList P ops Q rest (a.put op.dst r) w) : wpList P ops Q (op :: rest) a w := by
  refine wpList_plain hgd fun _ hK => ?_
  unfold Oper.wp execOp
  simp only [ho, hv, hrun, Sem.run_bind, Sem.run_pure, Result.andThen_ok]
  exact hK _ _ h

def U0 : Array Value := #[.bool false, .bool true, .int .i64 (-1), .int .i64 1]
def U2 : Array Value := #[.bool false, .bool true, .int .i64 8, .int .i64 0]
def U4 : Array Value := #[.bool false, .bool true, .int .i64 4, .int .i64 0]
def U5 : Array Value := #[.bool true, .bool false, .int .i64 (-1), .int .i64 0]
def U6 : Array Value := #[.bool true, .bool false, .int .i64 0, .int .i64 0]
def U7 : Array Value := #[.bool true, .bool false, .int .i64 8, .int .i64 0]
def U10 : Array Value := #[.bool true, .bool true, .int .i64 4, .int .i64 0]
def RUL : Array Value := #[.bool false, .bool true, .int .i64 (-1), .int .i64 1, .bool false, .bool true, .int .i64 (-1), .int .i64 1, .bool false, .bool true, .int .i64 8, .int .i64 0, .bool false, .bool true, .int .i64 8, .int .i64 0, .bool false, .bool true, .int .i64 4, .int .i64 0, .bool true, .bool false, .int .i64 (-1), .int .i64 0, .bool true, .bool false, .int .i64 0, .int .i64 0, .bool true, .bool false, .int .i64 8, .int .i64 0, .bool true, .bool false, .int .i64 8, .int .i64 0, .bool true, .bool false, .int .i64 8, .int .i64 0, .bool true, .bool true, .int .i64 4, .int .i64 0, .bool false, .bool true, .int .i64 4, .int .i64 0]

theorem rul_at (k : Nat) (hk : k < 12) : RUL[k * 4]? = some (.bool (zeroB k)) ∧ RUL[k * 4 + 1]? = some (.bool (oneB k)) ∧ ∃ a b : Int, RUL[k * 4 + 2]? = some (.int .i64 a) ∧ RUL[k * 4 + 3]? = some (.int .i64 b) := by
  have hc : k = 0 ∨ k = 1 ∨ k = 2 ∨ k = 3 ∨ k = 4 ∨ k = 5 ∨ k = 6 ∨ k = 7 ∨ k = 8 ∨ k = 9 ∨ k = 10 ∨ k = 11 := by omega
  rcases hc with rfl | rfl | rfl | rfl | rfl | rfl | rfl | rfl | rfl | rfl | rfl | rfl
  all_goals exact ⟨rfl, rfl, _, _, rfl, rfl⟩

set_option maxRecDepth 100000 in
set_option maxHeartbeats 1600000 in
theorem rules_any (w : World) : Calls Tryd.prog 73 #[] w fun e w' => e = .returned (.agg RUL) ∧ w' = w.alloc (.cells RUL 103) := by
  go_enter Tryd.func73, Tryd.ntmps73
  go_step
  go_step
  go_step
  go_step
  go_step
  go_step
  go_step
  go_step
  go_step
  go_step
  go_step
  (refine wpList_build_known rfl 91 _ rfl #[(0, .bool false), (1, .bool true), (2, .int .i64 (-1)), (3, .int .i64 1)] (by kernel_rfl) (.agg U0) (fun _ => by kernel_rfl) ?_)
  (refine wpList_build_known rfl 91 _ rfl #[(0, .bool false), (1, .bool true), (2, .int .i64 (-1)), (3, .int .i64 1)] (by kernel_rfl) (.agg U0) (fun _ => by kernel_rfl) ?_)
  (refine wpList_build_known rfl 91 _ rfl #[(0, .bool false), (1, .bool true), (2, .int .i64 8), (3, .int .i64 0)] (by kernel_rfl) (.agg U2) (fun _ => by kernel_rfl) ?_)
  (refine wpList_build_known rfl 91 _ rfl #[(0, .bool false), (1, .bool true), (2, .int .i64 8), (3, .int .i64 0)] (by kernel_rfl) (.agg U2) (fun _ => by kernel_rfl) ?_)
  (refine wpList_build_known rfl 91 _ rfl #[(0, .bool false), (1, .bool true), (2, .int .i64 4), (3, .int .i64 0)] (by kernel_rfl) (.agg U4) (fun _ => by kernel_rfl) ?_)
  (refine wpList_build_known rfl 91 _ rfl #[(0, .bool true), (1, .bool false), (2, .int .i64 (-1)), (3, .int .i64 0)] (by kernel_rfl) (.agg U5) (fun _ => by kernel_rfl) ?_)
  (refine wpList_build_known rfl 91 _ rfl #[(0, .bool true), (1, .bool false), (2, .int .i64 0), (3, .int .i64 0)] (by kernel_rfl) (.agg U6) (fun _ => by kernel_rfl) ?_)
  (refine wpList_build_known rfl 91 _ rfl #[(0, .bool true), (1, .bool false), (2, .int .i64 8), (3, .int .i64 0)] (by kernel_rfl) (.agg U7) (fun _ => by kernel_rfl) ?_)
  (refine wpList_build_known rfl 91 _ rfl #[(0, .bool true), (1, .bool false), (2, .int .i64 8), (3, .int .i64 0)] (by kernel_rfl) (.agg U7) (fun _ => by kernel_rfl) ?_)
  (refine wpList_build_known rfl 91 _ rfl #[(0, .bool true), (1, .bool false), (2, .int .i64 8), (3, .int .i64 0)] (by kernel_rfl) (.agg U7) (fun _ => by kernel_rfl) ?_)
  (refine wpList_build_known rfl 91 _ rfl #[(0, .bool true), (1, .bool true), (2, .int .i64 4), (3, .int .i64 0)] (by kernel_rfl) (.agg U10) (fun _ => by kernel_rfl) ?_)
  (refine wpList_build_known rfl 91 _ rfl #[(0, .bool false), (1, .bool true), (2, .int .i64 4), (3, .int .i64 0)] (by kernel_rfl) (.agg U4) (fun _ => by kernel_rfl) ?_)
  (refine wpList_build_known rfl 103 _ rfl #[(0, .agg U0), (1, .agg U0), (2, .agg U2), (3, .agg U2), (4, .agg U4), (5, .agg U5), (6, .agg U6), (7, .agg U7), (8, .agg U7), (9, .agg U7), (10, .agg U10), (11, .agg U4)] (by kernel_rfl) (.agg RUL) (fun _ => by kernel_rfl) ?_)
  (refine wpList_store_new rfl 103 _ _ rfl _ RUL (by kernel_rfl) (by kernel_rfl) (by kernel_rfl) (by kernel_rfl) (by kernel_rfl) ?_)
  simp only [Act.put, List.setIfInBounds_toArray, List.set_cons_zero, List.set_cons_succ]
  go_wp2
  refine bodyPost_ret (v := .agg RUL) (results_cell_row rfl _ _ w.heap.size 103 RUL (0, 0) _ rfl (heap_alloc_last _ _) Tryd.underlying103 rfl (by kernel_rfl)) rfl ⟨rfl, rfl⟩

end Go.Proofs.YtebiidfpgdolnaaDoor.Dmp

namespace Go.Proofs.YtebiidfpgdolnaaDoor.Dmp
open Go.ChangeShapes Go.WideShapes Go.ChangeAt Go.RowKit Go.Deep
set_option linter.unusedVariables false
open Go.Lib
set_option linter.unusedSimpArgs false

set_option maxRecDepth 100000 in
set_option maxHeartbeats 1600000 in
theorem one_out (k : Int) (hk : k < 0 ∨ 12 ≤ k) (w : World) : Calls Tryd.prog 61 #[.int .i64 k] w fun e w' => e = .returned (.tuple #[.agg #[.bool false, .bool false, .int .i64 0, .int .i64 0], .int .i64 3]) ∧ Below w.heap.size w w' := by
  have hb : ∀ o p q, Below w.heap.size w (((w.alloc o).alloc p).alloc q) := fun o p q => (((Below.refl _ w).alloc (Nat.le_refl _) o).alloc (by simp) p).alloc (by simp; omega) q
  have HB := Lib.hid hb
  clear hb
  rcases hk with hk | hk
  all_goals
    try have hk0 : ¬ k < 0 := by omega
    go_enter Tryd.func61, Tryd.ntmps61
    go_wp2_with fail
    refine (rules_any _).mono ?_
    rintro e w1 ⟨rfl, hw⟩
    go_wp2_with (with_reducible refine wpList_store_new rfl 103 _ _ rfl _ RUL (by simp [Act.eval]) (by kernel_rfl) (by kernel_rfl) (by kernel_rfl) (by kernel_rfl) ?_)
    exact bodyPost_ret (v := .tuple #[.agg #[.bool false, .bool false, .int .i64 0, .int .i64 0], .int .i64 3]) (by simp [results, Tryd.results61, go_sem]) rfl ⟨rfl, HB.out _ _ _⟩

set_option maxRecDepth 100000 in
set_option maxHeartbeats 1600000 in
theorem one_in (k : Nat) (hk : k < 12) (a b : Int) (ha : RUL[k * 4 + 2]? = some (.int .i64 a)) (hb : RUL[k * 4 + 3]? = some (.int .i64 b)) (w : World) : Calls Tryd.prog 61 #[.int .i64 k] w fun e w' => e = .returned (.tuple #[.agg #[.bool (zeroB k), .bool (oneB k), .int .i64 a, .int .i64 b], .int .i64 0]) ∧ Below w.heap.size w w' := by
  obtain ⟨r0, r1, -, -, -, -⟩ := rul_at k hk
  obtain ⟨H, hH⟩ : ∃ H, w.heap.size = H := ⟨_, rfl⟩
  have hbl : ∀ o p, Blk (((w.alloc o).alloc p).alloc (.cells RUL 103)) (H + 2) 103 RUL := fun o p => by
    have := Blk.new ((w.alloc o).alloc p) 103 RUL
    rw [show ((w.alloc o).alloc p).heap.size = H + 2 by simp [hH]] at this
    exact this
  have c0 : ∀ o p, (((w.alloc o).alloc p).alloc (.cells RUL 103)).cell? ⟨H + 2, k * 4, none⟩ = some (.bool (zeroB k)) := fun o p => ((hbl o p).cell _).trans r0
  have c1 : ∀ o p, (((w.alloc o).alloc p).alloc (.cells RUL 103)).cell? ⟨H + 2, k * 4 + 1, none⟩ = some (.bool (oneB k)) := fun o p => ((hbl o p).cell _).trans r1
  have c2 : ∀ o p, (((w.alloc o).alloc p).alloc (.cells RUL 103)).cell? ⟨H + 2, k * 4 + 2, none⟩ = some (.int .i64 a) := fun o p => ((hbl o p).cell _).trans ha
  have c3 : ∀ o p, (((w.alloc o).alloc p).alloc (.cells RUL 103)).cell? ⟨H + 2, k * 4 + 3, none⟩ = some (.int .i64 b) := fun o p => ((hbl o p).cell _).trans hb
  have hbe : ∀ o p q, Below w.heap.size w (((w.alloc o).alloc p).alloc q) := fun o p q => (((Below.refl _ w).alloc (Nat.le_refl _) o).alloc (by simp) p).alloc (by simp; omega) q
  have HB := Lib.hid (And.intro hbe (And.intro c0 (And.intro c1 (And.intro c2 (And.intro c3 hH)))))
  clear hbe c0 c1 c2 c3 hH hbl r0 r1 ha hb
  have k0 : (0 : Int) ≤ (k : Int) := by omega
  have k1 : (k : Int) < 12 := by omega
  have k2 : ¬ (k : Int) < 0 := by omega
  have k3 : ¬ (12 : Int) ≤ (k : Int) := by omega
  go_enter Tryd.func61, Tryd.ntmps61
  go_wp2_with fail
  refine (rules_any _).mono ?_
  rintro e w1 ⟨rfl, rfl⟩
  have c0 := HB.out.2.1
  have c1 := HB.out.2.2.1
  have c2 := HB.out.2.2.2.1
  have c3 := HB.out.2.2.2.2.1
  simp only [← HB.out.2.2.2.2.2] at c0 c1 c2 c3
  go_wp2_with (with_reducible refine wpList_store_new rfl 103 _ _ rfl _ RUL (by simp [Act.eval]) (by kernel_rfl) (by kernel_rfl) (by kernel_rfl) (by kernel_rfl) ?_)
  exact bodyPost_ret (v := .tuple #[.agg #[.bool (zeroB k), .bool (oneB k), .int .i64 a, .int .i64 b], .int .i64 0]) (by simp [results, Tryd.results61, go_sem]) rfl ⟨rfl, HB.out.1 _ _ _⟩

def needE (k : Int) : Int := if 0 ≤ k ∧ k ≤ 11 then 0 else 3

set_option maxRecDepth 100000 in
set_option maxHeartbeats 1600000 in
theorem needs_any (k : Int) (w : World) : Calls Tryd.prog 39 #[.int .i64 k] w fun e w' => e = .returned (.tuple #[.bool (zeroB k), .bool (oneB k), .int .i64 (needE k)]) ∧ Below w.heap.size w w' := by
  rcases (show (k < 0 ∨ 12 ≤ k) ∨ (0 ≤ k ∧ k < 12) by omega) with hk | ⟨h0, h1⟩
  · have e1 : zeroB k = false := by unfold zeroB; simp; omega
    have e2 : oneB k = false := by unfold oneB; simp; omega
    have e3 : needE k = 3 := by unfold needE; rw [if_neg (by omega)]
    rw [e1, e2, e3]
    have HK := Lib.hid hk
    clear e1 e2 e3 hk
    go_enter Tryd.func39, Tryd.ntmps39
    go_wp2_with fail
    refine (one_out k HK.out _).mono ?_
    rintro e w1 ⟨rfl, hb⟩
    have hb2 : ∀ o d, Below w.heap.size w ((w1.alloc o).drewN d) := fun o d => below_drewN (hb.alloc hb.size o) d
    have HB := Lib.hid hb2
    clear hb2
    clear hb
    go_wp2_with fail
    go_quiet (fail)
    go_wp2_with fail
    go_ret3
    exact ⟨rfl, HB.out _ _⟩
  · obtain ⟨m, rfl⟩ : ∃ m : Nat, k = m := ⟨k.toNat, by omega⟩
    have hm : m < 12 := by omega
    obtain ⟨-, -, a, b, ha, hb⟩ := rul_at m hm
    have e3 : needE m = 0 := by unfold needE; rw [if_pos (by omega)]
    rw [e3]
    have HK := Lib.hid (And.intro ha hb)
    clear e3 ha hb
    go_enter Tryd.func39, Tryd.ntmps39
    go_wp2_with fail
    refine (one_in m hm a b HK.out.1 HK.out.2 _).mono ?_
    rintro e w1 ⟨rfl, hb⟩
    have hb2 : ∀ o d, Below w.heap.size w ((w1.alloc o).drewN d) := fun o d => below_drewN (hb.alloc hb.size o) d
    have HB := Lib.hid hb2
    clear hb2
    clear hb
    go_wp2_with fail
    go_quiet (fail)
    go_wp2_with fail
    go_ret3
    exact ⟨rfl, HB.out _ _⟩

end Go.Proofs.YtebiidfpgdolnaaDoor.Dmp

namespace Go.Proofs.YtebiidfpgdolnaaDoor.Dmp
open Go.ChangeShapes Go.WideShapes Go.ChangeAt Go.RowKit Go.Deep
set_option linter.unusedVariables false
open Go.Lib
set_option linter.unusedSimpArgs false

def depB (on we : Int) : Bool := numB on && wiB we 1 256

set_option maxRecDepth 100000 in
theorem dep_any (on we : Int) (ex : Bool) (w : World) : Calls Tryd.prog 65 #[.agg #[.int .i64 on, .int .i64 we, .bool ex]] w fun e w' => e = .returned (.bool (depB on we)) ∧ Below w.heap.size w w' := by
  unfold depB
  have hb : ∀ o, Below w.heap.size w (w.alloc o) := fun o => (Below.refl _ w).alloc (Nat.le_refl _) o
  have HB := Lib.hid hb
  clear hb
  cases hN : numB on
  all_goals
    have HN := Lib.hid hN
    clear hN
    go_enter Tryd.func65, Tryd.ntmps65
    go_wp2_with fail
    refine (number_any on _).mono ?_
    rintro e w1 ⟨rfl, rfl⟩
    rw [HN.out]
    go_wp2_with fail
    try
      refine (within_any we 1 256 _).mono ?_
      rintro e w1 ⟨rfl, rfl⟩
      go_wp2_with fail
    go_ret
    exact ⟨by simp, HB.out _⟩

set_option maxRecDepth 100000 in
set_option maxHeartbeats 1600000 in
theorem bared_any (ty st : Int) (en : Bool) (da : ByteArray) (ki on we : Int) (ex : Bool) (co la n : Int) (pv : Value) (w : World) : Calls Tryd.prog 63 #[.agg #[.int .i64 ty, .int .i64 st, .bool en, .string da, .int .i64 ki, .int .i64 on, .int .i64 we, .bool ex, .int .i64 co, .int .i64 la, .int .i64 n, pv]] w fun e w' => e = .returned (.agg #[.int .i64 ty, .int .i64 st, .bool en, .string da, .int .i64 ki, .int .i64 on, .int .i64 we, .bool ex, .int .i64 co, .int .i64 la, .int .i64 n]) ∧ Below w.heap.size w w' := by
  go_enter Tryd.func63, Tryd.ntmps63
  go_wp2_with fail
  exact bodyPost_ret (v := .agg #[.int .i64 ty, .int .i64 st, .bool en, .string da, .int .i64 ki, .int .i64 on, .int .i64 we, .bool ex, .int .i64 co, .int .i64 la, .int .i64 n]) (by simp [results, Tryd.results63, go_sem]) rfl ⟨rfl, ((Below.refl _ _).alloc (Nat.le_refl _) _).alloc (by simp) _⟩

set_option maxRecDepth 100000 in
set_option maxHeartbeats 1600000 in
theorem equal_any (v1 v2 : Value) (l1 l2 : List (Int × Int)) (hn : l1.length ≤ 30000) (w : World) (h1 : Ps w v1 l1) (h2 : Ps w v2 l2) :
    Calls Tryd.prog 64 #[v1, v2] w fun e w' => e = .returned (.bool (decide (l1 = l2))) ∧ Below w.heap.size w w' := by
  obtain ⟨a1, c1, rfl, hc1, -, -⟩ := h1.cap_of
  obtain ⟨a2, c2, rfl, hc2, -, -⟩ := h2.cap_of
  by_cases hl : l1.length = l2.length
  · obtain ⟨m, hm⟩ : ∃ m, l1.length = m := ⟨_, rfl⟩
    have HL := Lib.hid (And.intro hl (And.intro hm (And.intro h1 h2)))
    have hl2 : l2.length = m := by omega
    rw [hm, hl2]
    rw [hm] at hn hc1
    rw [hl2] at hc2
    clear hl hm h1 h2 hl2
    go_enter Tryd.func64, Tryd.ntmps64
    go_wp2_with fail
    go_loopw [13] (fun i wr => ∃ k : Nat, k ≤ m ∧ i = .int .i64 k ∧ l1.take k = l2.take k ∧ Below w.heap.size w wr) (fun i _ => m - (intOf i).toNat)
    case atStart => exact ⟨0, Nat.zero_le _, rfl, by simp, Below.refl _ _⟩
    case round =>
      obtain ⟨k, hk, rfl, htk, hb⟩ := hrel
      rcases (show k < m ∨ k = m by omega) with hlt | rfl
      · obtain ⟨hll, hlm, h1, h2⟩ := HL.out
        obtain ⟨p1, hp1⟩ : ∃ p, l1[k]? = some p := ⟨l1[k]'(by omega), List.getElem?_eq_getElem _⟩
        obtain ⟨p2, hp2⟩ : ∃ p, l2[k]? = some p := ⟨l2[k]'(by omega), List.getElem?_eq_getElem _⟩
        obtain ⟨b1, o1, d1, e1, _, _, hb1, hr1⟩ := (h1.below hb).some_of (by omega)
        obtain ⟨b2, o2, d2, e2, _, _, hb2, hr2⟩ := (h2.below hb).some_of (by omega)
        injection e1 with e1 e3 e4
        injection e2 with e2 e5 e6
        subst e1 e2
        have q10 : wr.cell? ⟨b1, o1 + k * 2, none⟩ = some (.int .i64 p1.1) := hr1 _ _ (prs_at hp1).1
        have q11 : wr.cell? ⟨b1, o1 + k * 2 + 1, none⟩ = some (.int .i64 p1.2) := by rw [Nat.add_assoc]; exact hr1 _ _ (prs_at hp1).2
        have q20 : wr.cell? ⟨b2, o2 + k * 2, none⟩ = some (.int .i64 p2.1) := hr2 _ _ (prs_at hp2).1
        have q21 : wr.cell? ⟨b2, o2 + k * 2 + 1, none⟩ = some (.int .i64 p2.2) := by rw [Nat.add_assoc]; exact hr2 _ _ (prs_at hp2).2
        have k0 : (0 : Int) ≤ (k : Int) := by omega
        have k1 : (k : Int) < (m : Int) := by omega
        have HK := Lib.hid (And.intro htk (And.intro hb (And.intro hp1 hp2)))
        clear htk hb hp1 hp2 hr1 hr2 e3 e4 e5 e6 hll hlm h1 h2
        by_cases hc0 : p1.1 = p2.1
        · have hc0b : (p1.1 == p2.1) = true := by simp [hc0]
          by_cases hc1 : p1.2 = p2.2
          · have hc1b : (p1.2 == p2.2) = true := by simp [hc1]
            have HC := Lib.hid (And.intro hc0 hc1)
            rw [← hc0] at q20
            rw [← hc1] at q21
            clear hc0 hc1
            go_wp2_with fail
            go_quiet (fail)
            go_wp2_with fail
            go_roundw
            case rel => exact ⟨k + 1, by omega, by go_num, by rw [List.take_add_one, List.take_add_one, HK.out.1, HK.out.2.2.1, HK.out.2.2.2, show p1 = p2 from Prod.ext HC.out.1 HC.out.2], below_drewN HK.out.2.1 _⟩
            case measure => simp [intOf]; omega
          · have hne : l1 ≠ l2 := fun h => by
              have h1 := HK.out.2.2.1
              have h2 := HK.out.2.2.2
              rw [h, h2] at h1
              injection h1 with h1
              exact hc1 (by rw [h1])
            have hc1b : (p1.2 == p2.2) = false := by simp [hc1]
            have HNE := Lib.hid hne
            clear hne
            go_wp2_with fail
            go_quiet (fail)
            go_wp2_with fail
            go_ret
            exact ⟨congrArg (fun b => Ending.returned (Value.bool b)) (decide_eq_false HNE.out).symm, below_drewN HK.out.2.1 _⟩
        · have hne : l1 ≠ l2 := fun h => by
            have h1 := HK.out.2.2.1
            have h2 := HK.out.2.2.2
            rw [h, h2] at h1
            injection h1 with h1
            exact hc0 (by rw [h1])
          have hc0b : (p1.1 == p2.1) = false := by simp [hc0]
          have HNE := Lib.hid hne
          clear hne
          go_wp2_with fail
          go_quiet (fail)
          go_wp2_with fail
          go_ret
          exact ⟨congrArg (fun b => Ending.returned (Value.bool b)) (decide_eq_false HNE.out).symm, below_drewN HK.out.2.1 _⟩
      · have heq : l1 = l2 := by
          rw [List.take_of_length_le (by have := HL.out.2.1; omega), List.take_of_length_le (by have := HL.out.1; have := HL.out.2.1; omega)] at htk
          exact htk
        have hd : decide (l1 = l2) = true := by simp [heq]
        clear heq htk
        have HD := Lib.hid hd
        clear hd
        have HB := Lib.hid hb
        clear hb
        go_wp2_with fail
        go_ret
        exact ⟨congrArg (fun b => Ending.returned (Value.bool b)) HD.out.symm, HB.out⟩
  · have hne : l1 ≠ l2 := fun h => hl (by rw [h])
    rw [decide_eq_false hne]
    have hli : ¬ (l1.length : Int) = l2.length := by omega
    have hlb : ((l1.length : Int) != l2.length) = true := by simp; omega
    clear h1 h2 hne
    go_enter Tryd.func64, Tryd.ntmps64
    go_wp2_with fail
    go_ret
    exact ⟨rfl, Below.refl _ _⟩

end Go.Proofs.YtebiidfpgdolnaaDoor.Dmp
