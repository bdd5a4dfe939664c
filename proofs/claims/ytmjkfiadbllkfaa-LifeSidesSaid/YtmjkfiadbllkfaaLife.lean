import Derived.Test.YtmjkfiadbllkfaaKit
import Derived.Deep.RegionHeld3
import Derived.Deep.WholeRow
namespace Go.Proofs.Ytmjkfiadbllkfaa.Life
open Go.ChangeShapes Go.WideShapes Go.ChangeAt Go.RowKit Go.Deep
set_option linter.unusedVariables false

theorem wpList_store_new {P : Program} {ops : Array Oper} {rest : List Oper} {op : Oper} {a : Act} {w : World} {Q : Exit → Act → World → Prop} (hgd : op.guard = none) (ty : TypeId) (x y : Operand) (ho : op.op = .store ty x y)
    (c c' : Array Value) (hx : a.eval x = .pointer (some ⟨w.heap.size, 0, none⟩)) (hy : a.eval y = .agg c')
    (hi : (P.info? ty).map (·.size) = some c'.size) (hs : c.size = c'.size) (h1 : c'.all (·.oneCell') = true)
    (h : wpList P ops Q rest (a.put op.dst undef) (w.alloc (.cells c' ty))) : wpList P ops Q (op :: rest) a (w.alloc (.cells c ty)) := by
  refine wpList_plain hgd fun _ hK => ?_
  unfold Oper.wp execOp
  simp only [ho, hx, hy, Sem.run_bind, Sem.run_pure, Result.andThen_ok, run_storeAt_new w ty c c' hi hs h1]
  exact hK _ _ h

/-- A struct or array that is built, its value known by a closed run. -/
theorem wpList_build_known {P : Program} {ops : Array Oper} {rest : List Oper} {op : Oper} {a : Act} {w : World} {Q : Exit → Act → World → Prop} (hgd : op.guard = none) (t : TypeId) (parts : Array (Nat × Operand)) (ho : op.op = .build t parts)
    (vals : Array (Nat × Value)) (hv : (parts.map fun (i, x) => (i, a.eval x)) = vals) (r : Value) (hrun : ∀ w, (Instr.build t vals).run P w = .ok r w)
    (h : wpList P ops Q rest (a.put op.dst r) w) : wpList P ops Q (op :: rest) a w := by
  refine wpList_plain hgd fun _ hK => ?_
  unfold Oper.wp execOp
  simp only [ho, hv, hrun, Sem.run_bind, Sem.run_pure, Result.andThen_ok]
  exact hK _ _ h

def R0 : Array Value := #[.int .i64 1, .int .i64 1, .int .i64 (-1), .int .i64 (-1), .int .i64 (-1), .int .i64 (-1)]
def R1 : Array Value := #[.int .i64 (-1), .int .i64 (-1), .int .i64 2, .int .i64 3, .int .i64 4, .int .i64 4]
def R2 : Array Value := #[.int .i64 (-1), .int .i64 (-1), .int .i64 (-1), .int .i64 4, .int .i64 4, .int .i64 4]
def R3 : Array Value := #[.int .i64 (-1), .int .i64 (-1), .int .i64 4, .int .i64 (-1), .int .i64 4, .int .i64 4]
def R4 : Array Value := #[.int .i64 (-1), .int .i64 (-1), .int .i64 (-1), .int .i64 (-1), .int .i64 (-1), .int .i64 (-1)]
def TAB : Array Value := #[.int .i64 1, .int .i64 1, .int .i64 (-1), .int .i64 (-1), .int .i64 (-1), .int .i64 (-1), .int .i64 (-1), .int .i64 (-1), .int .i64 2, .int .i64 3, .int .i64 4, .int .i64 4, .int .i64 (-1), .int .i64 (-1), .int .i64 (-1), .int .i64 4, .int .i64 4, .int .i64 4, .int .i64 (-1), .int .i64 (-1), .int .i64 4, .int .i64 (-1), .int .i64 4, .int .i64 4, .int .i64 (-1), .int .i64 (-1), .int .i64 (-1), .int .i64 (-1), .int .i64 (-1), .int .i64 (-1)]

theorem follows_any (w : World) : Calls Try.prog 58 #[] w fun e w' => e = .returned (.agg TAB) ∧ w' = w.alloc (.cells TAB 88) := by
  go_enter Try.func58, Try.ntmps58
  go_step
  go_step
  go_step
  go_step
  go_step
  go_step
  go_step
  go_step
  go_step
  go_step
  go_step
  (refine wpList_build_known rfl 87 _ rfl #[(0, .int .i64 1), (1, .int .i64 1), (2, .int .i64 (-1)), (3, .int .i64 (-1)), (4, .int .i64 (-1)), (5, .int .i64 (-1))] (by kernel_rfl) (.agg R0) (fun _ => by kernel_rfl) ?_)
  (refine wpList_build_known rfl 87 _ rfl #[(0, .int .i64 (-1)), (1, .int .i64 (-1)), (2, .int .i64 2), (3, .int .i64 3), (4, .int .i64 4), (5, .int .i64 4)] (by kernel_rfl) (.agg R1) (fun _ => by kernel_rfl) ?_)
  (refine wpList_build_known rfl 87 _ rfl #[(0, .int .i64 (-1)), (1, .int .i64 (-1)), (2, .int .i64 (-1)), (3, .int .i64 4), (4, .int .i64 4), (5, .int .i64 4)] (by kernel_rfl) (.agg R2) (fun _ => by kernel_rfl) ?_)
  (refine wpList_build_known rfl 87 _ rfl #[(0, .int .i64 (-1)), (1, .int .i64 (-1)), (2, .int .i64 4), (3, .int .i64 (-1)), (4, .int .i64 4), (5, .int .i64 4)] (by kernel_rfl) (.agg R3) (fun _ => by kernel_rfl) ?_)
  (refine wpList_build_known rfl 87 _ rfl #[(0, .int .i64 (-1)), (1, .int .i64 (-1)), (2, .int .i64 (-1)), (3, .int .i64 (-1)), (4, .int .i64 (-1)), (5, .int .i64 (-1))] (by kernel_rfl) (.agg R4) (fun _ => by kernel_rfl) ?_)
  (refine wpList_build_known rfl 88 _ rfl #[(0, .agg R0), (1, .agg R1), (2, .agg R2), (3, .agg R3), (4, .agg R4)] (by kernel_rfl) (.agg TAB) (fun _ => by kernel_rfl) ?_)
  (refine wpList_store_new rfl 88 _ _ rfl _ TAB rfl rfl (by kernel_rfl) rfl (by kernel_rfl) ?_)
  go_wp2
  refine bodyPost_ret (v := .agg TAB) (results_cell_row rfl _ _ w.heap.size 88 TAB (0, 0) _ rfl (heap_alloc_last _ _) Try.underlying88 rfl (by kernel_rfl)) rfl ⟨rfl, rfl⟩

/-- What follows a state by an event; -1: it may not. -/
def nx (s e : Int) : Int :=
  if s = 0 ∧ e ≤ 1 then 1 else if s = 0 ∨ s = 4 ∨ e ≤ 1 then -1 else if 4 ≤ e then 4 else if s = 1 then e else if s = 2 ∧ e = 3 ∨ s = 3 ∧ e = 2 then 4 else -1

theorem look (s e : Int) (h0 : 0 ≤ s) (h1 : s ≤ 4) (h2 : 0 ≤ e) (h3 : e ≤ 5) :
    ∃ R, (∀ w, (Instr.index 88 (.agg TAB) (.int .i64 s)).run Try.prog w = .ok (.agg R) w) ∧ (∀ w, (Instr.index 87 (.agg R) (.int .i64 e)).run Try.prog w = .ok (.int .i64 (nx s e)) w) := by
  have hs : s = 0 ∨ s = 1 ∨ s = 2 ∨ s = 3 ∨ s = 4 := by omega
  have he : e = 0 ∨ e = 1 ∨ e = 2 ∨ e = 3 ∨ e = 4 ∨ e = 5 := by omega
  rcases hs with rfl | rfl | rfl | rfl | rfl
  · exact ⟨R0, fun _ => by kernel_rfl, fun _ => by rcases he with rfl | rfl | rfl | rfl | rfl | rfl <;> kernel_rfl⟩
  · exact ⟨R1, fun _ => by kernel_rfl, fun _ => by rcases he with rfl | rfl | rfl | rfl | rfl | rfl <;> kernel_rfl⟩
  · exact ⟨R2, fun _ => by kernel_rfl, fun _ => by rcases he with rfl | rfl | rfl | rfl | rfl | rfl <;> kernel_rfl⟩
  · exact ⟨R3, fun _ => by kernel_rfl, fun _ => by rcases he with rfl | rfl | rfl | rfl | rfl | rfl <;> kernel_rfl⟩
  · exact ⟨R4, fun _ => by kernel_rfl, fun _ => by rcases he with rfl | rfl | rfl | rfl | rfl | rfl <;> kernel_rfl⟩

theorem next1_any (s e : Int) (h0 : 0 ≤ s) (h1 : s ≤ 4) (h2 : 0 ≤ e) (h3 : e ≤ 5) (a b : Nat) (w : World) (hab : a < w.heap.size ∧ b < w.heap.size)
    (ca : w.cell? ⟨a, 0, none⟩ = some (.int .i64 s)) (cb : w.cell? ⟨b, 0, none⟩ = some (.int .i64 e)) :
    Calls Try.prog 57 #[.pointer (some ⟨a, 0, none⟩), .pointer (some ⟨b, 0, none⟩)] w fun r w' => r = .returned (.int .i64 (nx s e)) ∧ Below w.heap.size w w' := by
  obtain ⟨R, hR, hR2⟩ := look s e h0 h1 h2 h3
  obtain ⟨n, hn⟩ : ∃ n, n = nx s e := ⟨_, rfl⟩
  rw [← hn] at hR2 ⊢
  clear hn
  obtain ⟨ha, hb⟩ := hab
  go_enter Try.func57, Try.ntmps57
  go_wp2
  go_region_held3 (fun w' => w'.cell? ⟨a, 0, none⟩ = some (.int .i64 s) ∧ w'.cell? ⟨b, 0, none⟩ = some (.int .i64 e)) (go_simp)
    (first | (go_at_call 58; go_must (refine (follows_any _).mono ?_); rintro e w' ⟨rfl, rfl⟩))
  go_wp2
  go_ret
  exact ⟨rfl, ((Below.refl _ _).alloc (Nat.le_refl _) _).drew⟩

theorem next_bad (s e : Int) (h : s < 0 ∨ 4 < s ∨ e < 0 ∨ 5 < e) (w : World) :
    Calls Try.prog 30 #[.int .i64 s, .int .i64 e] w fun r w' => r = .returned (.tuple #[.int .i64 0, .int .i64 2]) ∧ Below w.heap.size w w' := by
  have fin : Below w.heap.size w ((w.alloc (.cells #[.int .i64 s] 3)).alloc (.cells #[.int .i64 e] 3)) := ((Below.refl _ _).alloc (Nat.le_refl _) _).alloc (by simp) _
  have FIN := Lib.hid fin
  clear fin
  by_cases h1 : s < 0
  · go_enter Try.func30, Try.ntmps30
    go_wp2
    go_ret2
    exact ⟨rfl, FIN.out⟩
  · by_cases h2 : 4 < s
    · go_enter Try.func30, Try.ntmps30
      go_wp2
      go_ret2
      exact ⟨rfl, FIN.out⟩
    · by_cases h3 : e < 0
      · go_enter Try.func30, Try.ntmps30
        go_wp2
        go_ret2
        exact ⟨rfl, FIN.out⟩
      · have h4 : 5 < e := by omega
        go_enter Try.func30, Try.ntmps30
        go_wp2
        go_ret2
        exact ⟨rfl, FIN.out⟩

theorem next_any (s e n : Int) (hn : n = nx s e) (c : Int) (r : Int) (hc : n = -1 ∧ c = 11 ∧ r = 0 ∨ n ≠ -1 ∧ c = 0 ∧ r = n) (h0 : 0 ≤ s) (h1 : s ≤ 4) (h2 : 0 ≤ e) (h3 : e ≤ 5) (w : World) :
    Calls Try.prog 30 #[.int .i64 s, .int .i64 e] w fun x w' => x = .returned (.tuple #[.int .i64 r, .int .i64 c]) ∧ Below w.heap.size w w' := by
  have hb : Below w.heap.size w ((w.alloc (.cells #[.int .i64 s] 3)).alloc (.cells #[.int .i64 e] 3)) := ((Below.refl _ _).alloc (Nat.le_refl _) _).alloc (by simp) _
  have HB := Lib.hid hb
  clear hb
  have HN := Lib.hid hn
  clear hn
  rcases hc with ⟨rfl, rfl, rfl⟩ | ⟨hne, rfl, rfl⟩
  · go_enter Try.func30, Try.ntmps30
    go_wp2_with fail
    refine (next1_any s e h0 h1 h2 h3 w.heap.size (w.heap.size + 1) _ (by simp; omega) (by go_simp) (by go_simp)).mono ?_
    rintro e w1 ⟨rfl, hb1⟩
    rw [← HN.out]
    go_wp2_with fail
    go_ret2
    exact ⟨rfl, HB.out.trans (hb1.mono (by simp; omega))⟩
  · have hne' : (r == -1) = false := by simp; omega
    go_enter Try.func30, Try.ntmps30
    go_wp2_with fail
    refine (next1_any s e h0 h1 h2 h3 w.heap.size (w.heap.size + 1) _ (by simp; omega) (by go_simp) (by go_simp)).mono ?_
    rintro x w1 ⟨rfl, hb1⟩
    rw [← HN.out]
    have q1 : w1.cell? ⟨w.heap.size, 0, none⟩ = some (.int .i64 s) := by rw [hb1.cell (by simp; omega)]; go_simp
    have q2 : w1.cell? ⟨w.heap.size + 1, 0, none⟩ = some (.int .i64 e) := by rw [hb1.cell (by simp)]; go_simp
    have hs1 : w.heap.size + 2 ≤ w1.heap.size := by have := hb1.size; simpa using this
    have hb2 := HB.out.trans (hb1.mono (by simp; omega))
    have HB2 := Lib.hid hb2
    clear hb2
    clear hb1
    go_wp2_with fail
    refine (next1_any s e h0 h1 h2 h3 w.heap.size (w.heap.size + 1) _ ⟨by omega, by omega⟩ q1 q2).mono ?_
    rintro x w2 ⟨rfl, hb3⟩
    rw [← HN.out]
    go_wp2_with fail
    go_ret2
    exact ⟨rfl, HB2.out.trans (hb3.mono (by omega))⟩

end Go.Proofs.Ytmjkfiadbllkfaa.Life
