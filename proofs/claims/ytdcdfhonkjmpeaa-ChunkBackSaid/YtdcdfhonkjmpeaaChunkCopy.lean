/-
  Laws for 'copy' and 'append' out of a string: as steps of a region; a row of bytes that is made.
-/
import Derived.Test.YtdcdfhonkjmpeaaKitB
import Derived.Laws.CopyOwn
import Derived.Lib.AppendStr
import Derived.OwnWalk
import Derived.Deep.RegionLaw
namespace Go.Proofs.Ytdcdfhonkjmpeaa
open Go.ChangeShapes Go.WideShapes Go.ChangeAt Go.RowKit Go.Deep
set_option linter.unusedVariables false
set_option linter.unusedSimpArgs false

/-- The cells of a list of bytes. -/
def cellsB (l : List UInt8) : List Value := l.map fun b => Value.int .u8 b.toNat
theorem cellsB_length (l : List UInt8) : (cellsB l).length = l.length := by simp [cellsB]
theorem cellsB_one (l : List UInt8) : ∀ u ∈ cellsB l, u.oneCell' = true := by
  intro u hu
  simp only [cellsB, List.mem_map] at hu
  obtain ⟨b, _, rfl⟩ := hu
  rfl
theorem cellsB_get (l : List UInt8) (j : Nat) (u : UInt8) (h : l[j]? = some u) : (cellsB l)[j]? = some (.int .u8 (u.toNat : Int)) := by simp [cellsB, h]
theorem cellsB_append (a b : List UInt8) : cellsB (a ++ b) = cellsB a ++ cellsB b := by simp [cellsB]

theorem run_copy_string {P : Program} (w : World) (dT sT ty elem : TypeId) (dp : Option Addr) (g o dLen dCap : Nat) (s : ByteArray) (cur : List Value) (t : TypeId)
    (hu : P.underlying dT = some (.slice elem)) (hs : (P.info? elem).map (·.size) = some 1)
    (hg : w.heap[g]? = some (.cells cur.toArray t (0, 0))) (l : List UInt8) (hl : l = s.data.toList.take dLen) (hpos : 0 < l.length → dp = some ⟨g, o, none⟩) (hfit : o + l.length ≤ cur.length) :
    (Builtin.copy_ #[dT, sT] ty #[.slice dp dLen dCap, .string s]).run P w =
      .ok (goInt l.length) (w.setRow g (splice cur o (cellsB l)).toArray) := by
  have hlen : s.data.toList.length = s.size := Array.length_toList
  have hn : Nat.min s.size dLen = l.length := by rw [hl, List.length_take, hlen, Nat.min_comm]
  have hx : ((s.extract 0 l.length).data.map fun b => Value.int .u8 (b.toNat : Int)).toList = cellsB l := by
    have e : (s.extract 0 l.length).data.toList = l := by
      rw [ByteArray.data_extract, Array.toList_extract, List.extract_eq_take_drop]
      simp only [List.drop_zero, Nat.sub_zero]
      rw [hl, List.length_take, hlen]
      apply List.ext_getElem?
      intro j
      simp only [List.getElem?_take]
      by_cases h1 : j < dLen
      · by_cases h2 : j < s.size
        · have h3 : j < min dLen s.size := by omega
          rw [if_pos h1, if_pos h3]
        · have h3 : ¬ j < min dLen s.size := by omega
          rw [if_pos h1, if_neg h3]
          exact (List.getElem?_eq_none (by omega)).symm
      · have h3 : ¬ j < min dLen s.size := by omega
        rw [if_neg h1, if_neg h3]
    rw [Array.toList_map, e]
    rfl
  cases hq : P.info? elem with
  | none => simp [hq] at hs
  | some i =>
    have hi : i.size = 1 := by simpa [hq] using hs
    cases hdp : dp with
    | none =>
      have h0 : l.length = 0 := by
        rcases Nat.eq_zero_or_pos l.length with h | h
        · exact h
        · rw [hpos h] at hdp; cases hdp
      obtain rfl : l = [] := List.eq_nil_of_length_eq_zero h0
      have hsr := setRow_self w g cur.toArray t (0, 0) hg
      simp [Builtin.copy_, run_underlying hu, Builtin.lenOf, Builtin.firstCells, sizeOf, typeInfo, hq, hi, hn, splice, cellsB, hsr]
    | some a =>
      by_cases h0 : l.length = 0
      · obtain rfl : l = [] := List.eq_nil_of_length_eq_zero h0
        have hsr := setRow_self w g cur.toArray t (0, 0) hg
        have hx' : (s.extract 0 0).data = #[] := by simp
        simp only [List.length_nil] at hn
        simp [Builtin.copy_, run_underlying hu, Builtin.lenOf, Builtin.firstCells, sizeOf, typeInfo, hq, hi, hn, splice, cellsB, hsr, storeCells, hx']
      · have ha := hpos (by omega)
        rw [hdp] at ha
        injection ha with ha
        subst ha
        have hst := run_storeCells_at P g o t (cellsB l) 0 cur.toArray w hg (by simpa [cellsB_length] using hfit) (cellsB_one l)
        simp only [Nat.add_zero, List.append_assoc] at hst
        have hst' : (storeCells ⟨g, o, none⟩ ((s.extract 0 l.length).data.map fun b => Value.int .u8 (b.toNat : Int)).toList 0).run P w = .ok () (w.setRow g (splice cur o (cellsB l)).toArray) := by
          rw [hx]; exact hst
        simp only [Array.toList_map] at hst'
        simp [Builtin.copy_, run_underlying hu, Builtin.lenOf, Builtin.firstCells, sizeOf, typeInfo, hq, hi, hn]
        simp at hst'
        simp [hst']

theorem step_copy_string {P : Program} {ops : Array Oper} {o : Oper} {a : Act} {w : World} {K : Act → World → Prop} {Q : Exit → Act → World → Prop} {E : Prop} (hgd : o.guard = none) (d s : Operand) (dT sT : TypeId)
    (ho : o.op = .call { callee := .builtin .copy, args := #[d, s], argTypes := #[dT, sT] }) (elem : TypeId) (hu : P.underlying dT = some (.slice elem)) (hsz : (P.info? elem).map (·.size) = some 1)
    (dp : Option Addr) (dLen dCap : Nat) (x : ByteArray) (hd : a.eval d = .slice dp dLen dCap) (hs : a.eval s = .string x)
    (g off : Nat) (cur : List Value) (t : TypeId) (hg : w.heap[g]? = some (.cells cur.toArray t (0, 0))) (l : List UInt8) (hl : l = x.data.toList.take dLen)
    (hpos : 0 < l.length → dp = some ⟨g, off, none⟩) (hfit : off + l.length ≤ cur.length)
    (h : K (a.put o.dst (goInt l.length)) (w.setRow g (splice cur off (cellsB l)).toArray)) :
    if Region.wanted o (yielded ops a.tmps) = true then Oper.wp P o a w K Q else E := by
  have hw : Region.wanted o (yielded ops a.tmps) = true := by simp [Region.wanted, hgd]
  rw [if_pos hw]
  have hrun := run_copy_string (P := P) w dT sT o.type elem dp g off dLen dCap x cur t hu hsz hg l hl hpos hfit
  unfold Oper.wp
  simp [execOp, ho, resolve, invoke, builtin, hd, hs, hrun, Result.andThen]
  exact h

/-- 'make([]byte, n)': the row. -/
theorem wpList_make_bytes {P : Program} (w : World) {ops : Array Oper} {rest : List Oper} {o : Oper} {a : Act} {Q : Exit → Act → World → Prop}
    (hg : o.guard = none) (l c : Operand) (t : TypeId) (hop : o.op = Op.makeSlice t l c) (e : TypeId) (i : TypeInfo) (h1 : P.underlying t = some (.slice e)) (h2 : P.info? e = some i) (h3 : i.zero = some (.int .u8 0)) (h4 : i.size = 1) (h5 : i.bytes = 1)
    (kl kc : IntKind) (L C : Int) (n : Nat) (hl : a.eval l = .int kl L) (hc : a.eval c = .int kc C) (hL : L = (n : Int)) (hC : C = (n : Int)) (b2 : n ≤ 281474976710656)
    (hK : ∀ (g : Nat) (w1 : World) (row : List Value), Hid (g = w.heap.size ∧ row = List.replicate n (Value.int .u8 0)) → row.length = n → Blk w1 g e row.toArray → Below g w w1 → wpList P ops Q rest (a.put o.dst (.slice (some ⟨g, 0, none⟩) n n)) w1) :
    wpList P ops Q (o :: rest) a w := by
  refine wpList_plain hg fun K hK' => ?_
  have hb : (i.bytes : Int) * (n : Int) ≤ 281474976710656 := by rw [h5]; omega
  have hrun := run_make (P := P) w t e i _ h1 h2 h3 kl kc (n : Int) (n : Int) (by omega) (Int.le_refl _) hb (by omega)
  have hmc : madeCells (Value.int .u8 0).cells (n * i.size) = (List.replicate n (Value.int .u8 0)).toArray := by
    rw [h4, Nat.mul_one]
    have := toList_madeCells_one (.int .u8 0) n
    rw [← this]
    rfl
  simp only [Int.toNat_natCast, hmc] at hrun
  subst hL
  subst hC
  unfold Oper.wp
  simp [execOp, hop, hl, hc, hrun, Result.andThen]
  refine hK' _ _ (hK w.heap.size _ _ (Lib.hid ⟨rfl, rfl⟩) (by simp) (Blk.new w e _) (Below.alloc (Below.refl _ _) (Nat.le_refl _) _))

/-- 'append(b, s...)' onto a row of the call's own, as a step of a region. -/
theorem step_append_string {P : Program} {ops : Array Oper} {o : Oper} {a : Act} {w : World} {K : Act → World → Prop} {Q : Exit → Act → World → Prop} {E : Prop} (hgd : o.guard = none) (s x : Operand) (t u : TypeId)
    (ho : o.op = .call { callee := .builtin .append, args := #[s, x], argTypes := #[t, u] }) (e : TypeId) (i : TypeInfo) (ht : P.underlying t = some (.slice e)) (hu : P.underlying u = some .string) (hi : P.info? e = some i)
    (hz : i.zero = some (.int .u8 0)) (hsize : i.size = 1) (hby : i.bytes = 1)
    (base : Nat) (v : Value) (n : Nat) (xs : List Value) (hown : w.ownsRow base e 1 v n xs) (y : ByteArray) (hs : a.eval s = v) (hx : a.eval x = .string y)
    (hb : n + y.size ≤ 140737488355328) (hbase : base ≤ w.heap.size)
    (hK : ∀ a' c' w', w'.ownsRow base e 1 (.slice a' (n + y.size) c') (n + y.size) (xs ++ Go.Lib.strCells y) → w.grownBy w' v.ownBlock → K (a.put o.dst (.slice a' (n + y.size) c')) w') :
    if Region.wanted o (yielded ops a.tmps) = true then Oper.wp P o a w K Q else E := by
  have hw : Region.wanted o (yielded ops a.tmps) = true := by simp [Region.wanted, hgd]
  rw [if_pos hw]
  obtain ⟨v', w', hrun, r1, r2, _⟩ := Go.Lib.run_append_own_string (P := P) w base t u o.type e i ht hu hi hz hsize hby v n xs hown y (by unfold maxLen; omega) hb hbase
  unfold Oper.wp
  simp [execOp, ho, resolve, invoke, builtin, hs, hx, hrun, Result.andThen]
  obtain ⟨a', c', rfl⟩ : ∃ a' c', v' = .slice a' (n + y.size) c' := by
    rcases r1.2 with ⟨h1, h2⟩ | ⟨gg, cap, cur, h1, _⟩
    · exact ⟨none, 0, by rw [h1, h2]⟩
    · exact ⟨_, cap, h1⟩
  exact hK _ _ _ r1 r2

end Go.Proofs.Ytdcdfhonkjmpeaa
