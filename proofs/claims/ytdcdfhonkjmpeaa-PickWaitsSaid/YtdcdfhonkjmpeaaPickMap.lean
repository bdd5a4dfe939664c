/-
  The map of a pick: what is left to each number; how many there are.
-/
import Derived.Test.YtdcdfhonkjmpeaaKit
import Derived.Maps.OwnOps
import Derived.Maps.OwnSet
import Derived.Maps.Views
import Derived.Maps.RangeWalk
namespace Go.Proofs.Ytdcdfhonkjmpeaa.Pick
open Go.ChangeShapes Go.WideShapes Go.ChangeAt Go.RowKit Go.Deep
open Go.Maps (Keyed)
set_option linter.unusedVariables false

theorem und3 : Try.prog.underlying 3 = some (.int .i64) := by kernel_rfl
theorem und4 : Try.prog.underlying 4 = some .bool := by kernel_rfl
theorem und95 : Try.prog.underlying 95 = some (.map 3 3) := by kernel_rfl
theorem und102 : Try.prog.underlying 102 = some (.map 3 4) := by kernel_rfl
theorem key3 : Keyed Try.prog 3 := Go.Maps.int_keyed und3
theorem zero3 (w : World) : (zeroValue 3).run Try.prog w = .ok (.int .i64 0) w := by kernel_rfl
theorem zero4 (w : World) : (zeroValue 4).run Try.prog w = .ok (.bool false) w := by kernel_rfl
def Wf (i : Int) : Prop := (Lit.int .i64 i).wf = true
theorem keyOf3 {i : Int} (h : Wf i) : keyOf Try.prog 3 (.int .i64 i) = some (.int .i64 i) := Go.Maps.keyOf_int_mk und3 h
theorem isKey (i : Int) : WideAt.IsKeyLit (.int .i64 i) := by trivial

def upd (f : Int → Int) (i v : Int) : Int → Int := fun j => if j = i then v else f j

/-- Block b of w is a map that says f; c numbers have something. -/
def MapIs (w : World) (b n : Nat) (f : Int → Int) (c : Nat) : Prop :=
  ∃ D : DataW Unit, w.ownsMap Try.prog 3 (plainElem Try.prog 3) b n D ∧ (∀ i, Wf i → D.atKey (.int .i64 i) (.lit (.int .i64 0)) = .lit (.int .i64 (f i))) ∧
    (∀ i, Wf i → Go.Maps.has D (.int .i64 i) = decide (f i ≠ 0)) ∧ Go.Maps.size D = c

/-- The same of a map of truths. -/
def SetIs (w : World) (b n : Nat) (f : Int → Bool) : Prop :=
  ∃ D : DataW Unit, w.ownsMap Try.prog 3 (plainElem Try.prog 4) b n D ∧ ∀ i, Wf i → D.atKey (.int .i64 i) (.lit (.bool false)) = .lit (.bool (f i))

theorem plainElem_bool_inv {v : Value} {z : DataW Unit × List MemPlace} (h : plainElem Try.prog 4 v = some z) : ∃ x, v = .bool x ∧ z = (.lit (.bool x), []) := by
  unfold plainElem at h
  rw [und4] at h
  cases v <;> simp at h
  subst h
  exact ⟨_, rfl, rfl⟩

set_option maxRecDepth 100000 in
/-- 'm[k]' of a map of truths. -/
theorem wpList_lookup_own_bool (w : World) {ops : Array Oper} {rest : List Oper} {o : Oper} {a : Act} {Q : Exit → Act → World → Prop}
    (hg : o.guard = none) (m x : Operand) (t : TypeId) (hop : o.op = Op.lookup t m x false) (ht : Try.prog.underlying t = some (.map 3 4)) (b n : Nat) (f : Int → Bool)
    (hm : a.eval m = .map (some b)) (hown : SetIs w b n f) (i : Int) (hi : Wf i) (hx : a.eval x = .int .i64 i) (hK : wpList Try.prog ops Q rest (a.put o.dst (.bool (f i))) w) :
    wpList Try.prog ops Q (o :: rest) a w := by
  refine wpList_plain hg fun K' hK' => ?_
  obtain ⟨D, hD, hf⟩ := hown
  have hat := hf i hi
  obtain ⟨es, clock, hb, F, _, rfl⟩ := hD
  have hrun : (Instr.lookup t (.map (some b)) (.int .i64 i) false).run Try.prog w = .ok (.bool (f i)) w := by
    rcases Go.Maps.fit_look false key3 ht (zero4 w) hb F (keyOf3 hi) with ⟨hrun, _, h2⟩ | ⟨e0, y, _, _, hrun, hRv, h2, _⟩
    · rw [h2] at hat
      have he : false = f i := by injection hat with hat; injection hat
      rw [← he]
      exact hrun
    · rw [h2] at hat
      obtain ⟨x', hx', rfl⟩ := plainElem_bool_inv hRv
      have he : x' = f i := by injection hat with hat; injection hat
      rw [hx'] at hrun
      rw [← he]
      exact hrun
  unfold Oper.wp
  simp [execOp, hop, hm, hx, hrun, Result.andThen]
  exact hK' _ _ hK

section
variable {w w' : World} {b n c : Nat} {f : Int → Int}
theorem MapIs.kept {row : Option Nat} (h : MapIs w b n f c) (hg : w.grownBy w' row) (hne : some b ≠ row) : MapIs w' b n f c := by
  obtain ⟨D, h1, h2⟩ := h
  exact ⟨D, h1.kept hg hne, h2⟩
theorem MapIs.drewN (h : MapIs w b n f c) (k : Nat) : MapIs (w.drewN k) b n f c := h
theorem MapIs.made (w : World) : True := trivial
end

/-- Left. -/
theorem left_any (g b n c : Nat) (f : Int → Int) (i : Int) (hi : Wf i) (w : World) (h : Blk w g 97 #[.map (some b)]) (hm : MapIs w b n f c) :
    Calls Try.prog 36 #[.pointer (some ⟨g, 0, none⟩), .int .i64 i] w fun e w' => e = .returned (.int .i64 (f i)) ∧ w = w' := by
  have c0 : w.cell? ⟨g, 0, none⟩ = some (.map (some b)) := h.cell 0
  obtain ⟨D, hD, hf, _⟩ := hm
  have hat := hf i hi
  have HAT := Lib.hid hat
  clear hat
  clear hf
  have HD := Lib.hid hD
  clear hD
  go_enter Try.func36, Try.ntmps36
  go_wp2_with (at_lookup; refine wpList_lookup_own_int _ rfl _ _ 95 rfl 3 3 .i64 key3 und95 und3 (zero3 _) b n D rfl HD.out _ _ rfl (keyOf3 hi) ?_)
  intro y hy hwf
  have he : y = f i := by
    rw [HAT.out] at hy
    injection hy with hy
    injection hy with _ hy
    exact hy.symm
  clear hy
  subst he
  go_wp2
  go_ret
  exact ⟨rfl, rfl⟩

theorem left_nil (i : Int) (w : World) : Calls Try.prog 36 #[.pointer none, .int .i64 i] w fun e w' => e = .returned (.int .i64 0) ∧ w = w' := by
  go_enter Try.func36, Try.ntmps36
  go_wp2
  go_ret
  exact ⟨rfl, rfl⟩

def clamp (v : Int) : Int := if v > 1024 then 1024 else if v < -1024 then -1024 else v

/-- set: nothing is left. -/
theorem set_zero (g b n c c' : Nat) (f : Int → Int) (i : Int) (hi : Wf i) (hc : c' + (if f i ≠ 0 then 1 else 0) = c) (w : World) (h : Blk w g 97 #[.map (some b)]) (hm : MapIs w b n f c) :
    Calls Try.prog 59 #[.pointer (some ⟨g, 0, none⟩), .int .i64 i, .int .i64 0] w fun e w' => e = .returned (.tuple #[]) ∧ MapIs w' b n (upd f i 0) c' ∧ w.grownBy w' (some b) := by
  have c0 : w.cell? ⟨g, 0, none⟩ = some (.map (some b)) := h.cell 0
  obtain ⟨D, hD, hf, hh, hs⟩ := hm
  have HX := Lib.hid (And.intro hf (And.intro hh (And.intro hs hc)))
  clear hf hh hs hc
  have HD := Lib.hid hD
  clear hD
  go_enter Try.func59, Try.ntmps59
  go_wp2_with (at_delete; refine wpList_delete_own _ rfl _ _ 95 3 rfl 3 key3 und95 _ b n D rfl HD.out _ _ rfl (keyOf3 hi) ?_)
  intro w1 h1 ht1
  go_wp2
  refine bodyPost_ret (results_none rfl _ _ _) rfl ?_
  obtain ⟨hf, hh, hs, hc⟩ := HX.out
  have htd := HD.out.tidy key3
  refine ⟨rfl, ⟨_, h1, fun j hj => ?_, fun j hj => ?_, ?_⟩, ht1.grown⟩
  · unfold upd
    split
    · rename_i e; subst e; exact Go.Maps.atKey_del_same _
    · rename_i e
      rw [Go.Maps.atKey_del_other (by intro e2; injection e2 with _ e2; exact e e2)]
      exact hf j hj
  · unfold upd
    split
    · rename_i e; subst e; rw [Go.Maps.has_del_same]; simp
    · rename_i e
      rw [Go.Maps.has_del_other (by intro e2; injection e2 with _ e2; exact e e2)]
      exact hh j hj
  · have := Go.Maps.size_del (k := .int .i64 i) htd
    rw [hh i hi, hs] at this
    by_cases h0 : f i = 0
    · simp [h0] at this hc; omega
    · simp [h0] at this hc; omega

/-- set: so much is left. -/
theorem set_some (g b n c c' : Nat) (f : Int → Int) (i v : Int) (hi : Wf i) (hv : v ≠ 0) (hvw : Wf v) (hn : n < maxLen) (hc : c' = if f i ≠ 0 then c else c + 1) (w : World) (h : Blk w g 97 #[.map (some b)]) (hm : MapIs w b n f c) :
    Calls Try.prog 59 #[.pointer (some ⟨g, 0, none⟩), .int .i64 i, .int .i64 v] w fun e w' => e = .returned (.tuple #[]) ∧ MapIs w' b (n + 1) (upd f i (clamp v)) c' ∧ w.grownBy w' (some b) := by
  have c0 : w.cell? ⟨g, 0, none⟩ = some (.map (some b)) := h.cell 0
  obtain ⟨D, hD, hf, hh, hs⟩ := hm
  have HX := Lib.hid (And.intro hf (And.intro hh (And.intro hs hc)))
  clear hf hh hs hc
  have HD := Lib.hid hD
  clear hD
  have hcl : (v > 1024 ∧ clamp v = 1024) ∨ (¬ v > 1024 ∧ v < -1024 ∧ clamp v = -1024) ∨ (¬ v > 1024 ∧ ¬ v < -1024 ∧ clamp v = v) := by
    unfold clamp
    by_cases a1 : v > 1024
    · exact .inl ⟨a1, by rw [if_pos a1]⟩
    · by_cases a2 : v < -1024
      · exact .inr (.inl ⟨a1, a2, by rw [if_neg a1, if_pos a2]⟩)
      · exact .inr (.inr ⟨a1, a2, by rw [if_neg a1, if_neg a2]⟩)
  have hcw : Wf (clamp v) ∧ clamp v ≠ 0 := by
    rcases hcl with ⟨_, e⟩ | ⟨_, _, e⟩ | ⟨_, _, e⟩
    · rw [e]; exact ⟨by unfold Wf; decide, by decide⟩
    · rw [e]; exact ⟨by unfold Wf; decide, by decide⟩
    · rw [e]; exact ⟨hvw, hv⟩
  obtain ⟨z, hz⟩ : ∃ z, clamp v = z := ⟨_, rfl⟩
  rw [hz] at hcl hcw ⊢
  clear hz
  have fin : ∀ w1 : World, w1.ownsMap Try.prog 3 (plainElem Try.prog 3) b (n + 1) (D.put (.int .i64 i) (.lit (.int .i64 z))) → MapIs w1 b (n + 1) (upd f i z) c' := by
    intro w1 h1
    obtain ⟨hf, hh, hs, hc⟩ := HX.out
    have htd := HD.out.tidy key3
    have hmp := HD.out.isMap
    refine ⟨_, h1, fun j hj => ?_, fun j hj => ?_, ?_⟩
    · unfold upd
      split
      · rename_i e; subst e; exact Go.Maps.atKey_put_same hmp (isKey _) _ _
      · rename_i e
        rw [Go.Maps.atKey_put_other (by intro e2; injection e2 with _ e2; exact e e2)]
        exact hf j hj
    · unfold upd
      split
      · rename_i e; subst e; rw [Go.Maps.has_put_same hmp (isKey _)]; simp [hcw.2]
      · rename_i e
        rw [Go.Maps.has_put_other (by intro e2; injection e2 with _ e2; exact e e2)]
        exact hh j hj
    · have := Go.Maps.size_put (k := .int .i64 i) htd (.lit (.int .i64 z))
      rw [hh i hi, hs] at this
      rw [this, hc]
      by_cases h0 : f i = 0 <;> simp [h0]
  have HFIN := Lib.hid fin
  clear fin
  rcases hcl with ⟨a1, rfl⟩ | ⟨a1, a2, rfl⟩ | ⟨a1, a2, rfl⟩
  all_goals
    go_enter Try.func59, Try.ntmps59
    go_wp2_with (at_mapUpdate; refine wpList_mapUpdate_in _ rfl _ _ _ 95 rfl 3 3 key3 und95 _ b n D rfl HD.out hn _ _ _ rfl rfl (keyOf3 hi) _ _ (plainElem_int und3 hcw.1) ?_)
    intro w1 h1 ht1
    go_wp2
    first | go_end0 | refine bodyPost_ret (results_none rfl _ _ _) rfl ?_
    exact ⟨rfl, HFIN.out _ h1, ht1.grown⟩

end Go.Proofs.Ytdcdfhonkjmpeaa.Pick
