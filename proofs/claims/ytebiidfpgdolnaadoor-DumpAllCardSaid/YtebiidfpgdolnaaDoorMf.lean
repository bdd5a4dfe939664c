import Derived.Test.YtebiidfpgdolnaaDoorMe
namespace Go.Proofs.YtebiidfpgdolnaaDoor.Dmp
open Go.ChangeShapes Go.WideShapes Go.ChangeAt Go.RowKit Go.Deep
set_option linter.unusedVariables false
open Go.Lib
set_option linter.unusedSimpArgs false

/-- A frame has nothing but what its type has. -/
def onlyB (f : Fr) : Bool :=
  (decide (f.ty = 0 ∨ f.ty = 1) || !f.en) && (decide (f.ty = 0 ∨ f.ty = 1 ∨ f.ty = 7 ∨ f.ty = 8) || decide (f.da = ⟨#[]⟩)) && (decide (f.ty = 2) || decide (f.ki = 0)) &&
  (decide (f.ty = 2 ∨ f.ty = 3) || noneB f.on f.we f.ex) && (decide (f.ty = 4 ∨ f.ty = 9) || decide (f.co = 0)) && (decide (f.ty = 9) || decide (f.la = 0)) && (decide (f.ty = 10 ∨ f.ty = 11) || decide (f.n = 0)) && (decide (f.ty = 5) || decide (f.ps = []))
/-- A frame that may be. -/
def checkB (f : Fr) : Bool := decide (0 ≤ f.ty ∧ f.ty ≤ 11) && (streamB f.ty f.st && onlyB f && fieldsB f)
def checkE (f : Fr) : Int := if checkB f = true then 0 else 2

theorem Ps.nil (w : World) : Ps w (.slice none 0 0) [] := RdL.nil w 0 2

theorem check_any (ty st : Int) (en : Bool) (da : ByteArray) (ki on we : Int) (ex : Bool) (co la n : Int) (pv : Value) (ps : List (Int × Int)) (hn : ps.length ≤ 30000) (w : World) (hP : Ps w pv ps) :
    Calls Tryd.prog 19 #[.agg #[.int .i64 ty, .int .i64 st, .bool en, .string da, .int .i64 ki, .int .i64 on, .int .i64 we, .bool ex, .int .i64 co, .int .i64 la, .int .i64 n, pv]] w fun e w' => e = .returned (.int .i64 (checkE ⟨ty, st, en, da, ki, on, we, ex, co, la, n, ps⟩)) ∧ Below w.heap.size w w' := by
  by_cases hty : 0 ≤ ty ∧ ty ≤ 11
  · have hE : checkE ⟨ty, st, en, da, ki, on, we, ex, co, la, n, ps⟩ = if (streamB ty st && onlyB ⟨ty, st, en, da, ki, on, we, ex, co, la, n, ps⟩ && fieldsB ⟨ty, st, en, da, ki, on, we, ex, co, la, n, ps⟩) = true then 0 else 2 := by
      unfold checkE checkB
      simp [hty]
    rw [hE]
    clear hE
    have hc : ty = 0 ∨ ty = 1 ∨ ty = 2 ∨ ty = 3 ∨ ty = 4 ∨ ty = 5 ∨ ty = 6 ∨ ty = 7 ∨ ty = 8 ∨ ty = 9 ∨ ty = 10 ∨ ty = 11 := by omega
    rcases hc with rfl | rfl | rfl | rfl | rfl | rfl | rfl | rfl | rfl | rfl | rfl | rfl
    · exact check_in _ _ _ _ _ _ _ _ _ _ _ pv ps _ _ _ _ _ _ _ _ _ _ _ _ [] hn hty w hP (Ps.nil w) _ _ (by simp [onlyB, noneB, eq_comm, and_assoc, Bool.and_assoc]) (only_01 _ _ _ _ _ _ _ _ _ _ _ pv (.inl rfl)) (fun w hPw => fields_01 _ _ _ _ _ _ _ _ _ _ _ pv ps (.inl rfl) w)
    · exact check_in _ _ _ _ _ _ _ _ _ _ _ pv ps _ _ _ _ _ _ _ _ _ _ _ _ [] hn hty w hP (Ps.nil w) _ _ (by simp [onlyB, noneB, eq_comm, and_assoc, Bool.and_assoc]) (only_01 _ _ _ _ _ _ _ _ _ _ _ pv (.inr rfl)) (fun w hPw => fields_01 _ _ _ _ _ _ _ _ _ _ _ pv ps (.inr rfl) w)
    · exact check_in _ _ _ _ _ _ _ _ _ _ _ pv ps _ _ _ _ _ _ _ _ _ _ _ _ [] hn hty w hP (Ps.nil w) _ _ (by simp [onlyB, noneB, eq_comm, and_assoc, Bool.and_assoc]) (only_2 _ _ _ _ _ _ _ _ _ _ _ pv rfl) (fun w hPw => by
        have e : fieldsB ⟨2, st, en, da, ki, on, we, ex, co, la, n, ps⟩ = ((decide (ki = 1) || decide (ki = 2)) && depB on we) := by simp [fieldsB]
        rw [e]
        exact fields_2 st en da ki on we ex co la n pv w)
    · exact check_in _ _ _ _ _ _ _ _ _ _ _ pv ps _ _ _ _ _ _ _ _ _ _ _ _ [] hn hty w hP (Ps.nil w) _ _ (by simp [onlyB, noneB, eq_comm, and_assoc, Bool.and_assoc]) (only_3 _ _ _ _ _ _ _ _ _ _ _ pv rfl) (fun w hPw => by
        have e : fieldsB ⟨3, st, en, da, ki, on, we, ex, co, la, n, ps⟩ = (depB on we) := by simp [fieldsB]
        rw [e]
        exact fields_3 st en da ki on we ex co la n pv w)
    · exact check_in _ _ _ _ _ _ _ _ _ _ _ pv ps _ _ _ _ _ _ _ _ _ _ _ _ [] hn hty w hP (Ps.nil w) _ _ (by simp [onlyB, noneB, eq_comm, and_assoc, Bool.and_assoc]) (only_4 _ _ _ _ _ _ _ _ _ _ _ pv rfl) (fun w hPw => by
        have e : fieldsB ⟨4, st, en, da, ki, on, we, ex, co, la, n, ps⟩ = (numB co && numB la && numB n) := by simp [fieldsB]
        rw [e]
        exact fields_rest 4 st en da ki on we ex co la n pv (by omega) w)
    · obtain ⟨sa, sc, rfl, hcap, -, -⟩ := hP.cap_of
      exact check_in _ _ _ _ _ _ _ _ _ _ _ _ ps _ _ _ _ _ _ _ _ _ _ _ _ ps hn hty w hP hP _ _ (by simp [onlyB, noneB, eq_comm, and_assoc, Bool.and_assoc]) (only_5 _ _ _ _ _ _ _ _ _ _ _ _ _ _ rfl) (fun w hPw => by
        have e : fieldsB ⟨5, st, en, da, ki, on, we, ex, co, la, n, ps⟩ = (ps.all parB && decide (ps.length ≤ 8)) := by simp [fieldsB]
        rw [e]
        exact fields_5 st en da ki on we ex co la n _ ps hn w hPw)
    · exact check_in _ _ _ _ _ _ _ _ _ _ _ pv ps _ _ _ _ _ _ _ _ _ _ _ _ [] hn hty w hP (Ps.nil w) _ _ (by simp [onlyB, noneB, eq_comm, and_assoc, Bool.and_assoc]) (only_6 _ _ _ _ _ _ _ _ _ _ _ pv rfl) (fun w hPw => by
        have e : fieldsB ⟨6, st, en, da, ki, on, we, ex, co, la, n, ps⟩ = (numB co && numB la && numB n) := by simp [fieldsB]
        rw [e]
        exact fields_rest 6 st en da ki on we ex co la n pv (by omega) w)
    · exact check_in _ _ _ _ _ _ _ _ _ _ _ pv ps _ _ _ _ _ _ _ _ _ _ _ _ [] hn hty w hP (Ps.nil w) _ _ (by simp [onlyB, noneB, eq_comm, and_assoc, Bool.and_assoc]) (only_78 _ _ _ _ _ _ _ _ _ _ _ pv (.inl rfl)) (fun w hPw => fields_78 _ _ _ _ _ _ _ _ _ _ _ pv ps (.inl rfl) w)
    · exact check_in _ _ _ _ _ _ _ _ _ _ _ pv ps _ _ _ _ _ _ _ _ _ _ _ _ [] hn hty w hP (Ps.nil w) _ _ (by simp [onlyB, noneB, eq_comm, and_assoc, Bool.and_assoc]) (only_78 _ _ _ _ _ _ _ _ _ _ _ pv (.inr rfl)) (fun w hPw => fields_78 _ _ _ _ _ _ _ _ _ _ _ pv ps (.inr rfl) w)
    · exact check_in _ _ _ _ _ _ _ _ _ _ _ pv ps _ _ _ _ _ _ _ _ _ _ _ _ [] hn hty w hP (Ps.nil w) _ _ (by simp [onlyB, noneB, eq_comm, and_assoc, Bool.and_assoc]) (only_9 _ _ _ _ _ _ _ _ _ _ _ pv rfl) (fun w hPw => by
        have e : fieldsB ⟨9, st, en, da, ki, on, we, ex, co, la, n, ps⟩ = (numB co && numB la && numB n) := by simp [fieldsB]
        rw [e]
        exact fields_rest 9 st en da ki on we ex co la n pv (by omega) w)
    · exact check_in _ _ _ _ _ _ _ _ _ _ _ pv ps _ _ _ _ _ _ _ _ _ _ _ _ [] hn hty w hP (Ps.nil w) _ _ (by simp [onlyB, noneB, eq_comm, and_assoc, Bool.and_assoc]) (only_1011 _ _ _ _ _ _ _ _ _ _ _ pv (.inl rfl)) (fun w hPw => by
        have e : fieldsB ⟨10, st, en, da, ki, on, we, ex, co, la, n, ps⟩ = (numB co && numB la && numB n) := by simp [fieldsB]
        rw [e]
        exact fields_rest 10 st en da ki on we ex co la n pv (by omega) w)
    · exact check_in _ _ _ _ _ _ _ _ _ _ _ pv ps _ _ _ _ _ _ _ _ _ _ _ _ [] hn hty w hP (Ps.nil w) _ _ (by simp [onlyB, noneB, eq_comm, and_assoc, Bool.and_assoc]) (only_1011 _ _ _ _ _ _ _ _ _ _ _ pv (.inr rfl)) (fun w hPw => by
        have e : fieldsB ⟨11, st, en, da, ki, on, we, ex, co, la, n, ps⟩ = (numB co && numB la && numB n) := by simp [fieldsB]
        rw [e]
        exact fields_rest 11 st en da ki on we ex co la n pv (by omega) w)
  · have hE : checkE ⟨ty, st, en, da, ki, on, we, ex, co, la, n, ps⟩ = 2 := by unfold checkE checkB; simp [hty]
    rw [hE]
    exact check_out _ _ _ _ _ _ _ _ _ _ _ pv hty w

end Go.Proofs.YtebiidfpgdolnaaDoor.Dmp

namespace Go.Proofs.YtebiidfpgdolnaaDoor.Dmp
open Go.ChangeShapes Go.WideShapes Go.ChangeAt Go.RowKit Go.Deep
set_option linter.unusedVariables false
open Go.Lib
set_option linter.unusedSimpArgs false

/-! The document's 'Right', test by test. -/
def bad1 (ty st : Int) : Bool := !numB st || (decide (st = 0) && !zeroB ty) || (decide (0 < st) && !oneR ty)
def bad2 (f : Fr) : Bool :=
  (f.en && decide (1 < f.ty)) || (decide (¬ f.ki = 0) && decide (¬ f.ty = 2)) || (decide (¬ f.co = 0) && decide (¬ f.ty = 4) && decide (¬ f.ty = 9)) || (decide (¬ f.la = 0) && decide (¬ f.ty = 9)) || (decide (¬ f.n = 0) && decide (f.ty < 10)) || (decide (0 < f.ps.length) && decide (¬ f.ty = 5))
def bad3 (f : Fr) : Bool :=
  (!noneB f.on f.we f.ex && decide (¬ f.ty = 2) && decide (¬ f.ty = 3)) || (decide (¬ f.da = ⟨#[]⟩) && decide (1 < f.ty) && decide (¬ f.ty = 7) && decide (¬ f.ty = 8))
def bad4 (f : Fr) : Bool :=
  (decide (f.ty ≤ 1) && decide (256 < f.da.size)) || (decide (f.ty = 7 ∨ f.ty = 8) && decide (¬ f.da.size = 8)) || (decide (f.ty = 2) && decide (¬ f.ki = 1) && decide (¬ f.ki = 2)) || (decide (f.ty = 2 ∨ f.ty = 3) && !depB f.on f.we)
def rightB (f : Fr) : Bool := !bad1 f.ty f.st && (!bad2 f && (!bad3 f && (!bad4 f && (f.ps.all parB && (numB f.co && numB f.la && numB f.n && decide (f.ps.length ≤ 8))))))

def HoldR (w wx : World) (H : Nat) (cs : Array Value) : Prop := Below w.heap.size w wx ∧ Blk wx H 26 cs
theorem HoldR.below {w wx wy : World} {H : Nat} {cs : Array Value} (h : HoldR w wx H cs) (hb : Below wx.heap.size wx wy) : HoldR w wy H cs :=
  ⟨h.1.trans (hb.mono h.1.size), h.2.below hb h.2.lt⟩

def findReg (k : Nat) : Code → Option Code
  | .region id ops b => if id = k then some (.region id ops b) else none
  | .loop c => findReg k c
  | .seq a b => match findReg k a with
    | some c => some c
    | none => findReg k b
  | .block _ c => findReg k c
  | .scope c => findReg k c
  | .cond _ a b => match findReg k a with
    | some c => some c
    | none => findReg k b
  | _ => none
noncomputable def body4 : Code := (Tryd.f10.body.bind (findReg 4)).getD .skip
noncomputable def body6 : Code := (Tryd.f10.body.bind (findReg 6)).getD .skip
noncomputable def body8 : Code := (Tryd.f10.body.bind (findReg 8)).getD .skip

end Go.Proofs.YtebiidfpgdolnaaDoor.Dmp
