import Derived.Test.YtdcdfhonkjmpeaaPickL
import Derived.Test.YtdcdfhonkjmpeaaPickPlain
namespace Go.Proofs.Ytdcdfhonkjmpeaa.Pick
open Go.ChangeShapes Go.WideShapes Go.ChangeAt Go.RowKit Go.Deep
set_option linter.unusedVariables false

theorem nextOf_bnd {f : Int → Int} (hf : Bnd f) (c : Nat) (T : List Turn) : Bnd (nextOf f c T).2.1 := by
  have key : ∀ R : List Turn, Bnd (match R with
      | [] => ((((0 : Int), false), f, c) : (Int × Bool) × (Int → Int) × Nat)
      | t :: _ => if (firstOf f R).2 = true then (firstOf f R, f, c) else (firstOf (after (fewest f R (need f t) R.length) R f c R.length).1 R, after (fewest f R (need f t) R.length) R f c R.length)).2.1 := by
    intro R
    cases R with
    | nil => exact hf
    | cons t R0 =>
      simp only
      split
      · exact hf
      · exact after_bnd hf _ _ _ _
  exact key (rdyTo T T.length)

/-- A turn of Next, and a charge of one: what is left, and to how many. -/
def goSt (T : List Turn) (s : (Int → Int) × Nat) : (Int → Int) × Nat :=
  (upd (nextOf s.1 s.2 T).2.1 (nextOf s.1 s.2 T).1.1 (clamp ((nextOf s.1 s.2 T).2.1 (nextOf s.1 s.2 T).1.1 - 1)),
    cntUpd (nextOf s.1 s.2 T).2.1 (nextOf s.1 s.2 T).1.1 ((nextOf s.1 s.2 T).2.1 (nextOf s.1 s.2 T).1.1 - 1) (nextOf s.1 s.2 T).2.2)
def two : List Turn := [(1, 2, true), (3, 1, true)]
def awSt : Nat → (Int → Int) × Nat
  | 0 => (fun _ => 0, 0)
  | j + 1 => goSt two (awSt j)
def wantAt : Nat → Int
  | 0 => 1 | 1 => 1 | 2 => 3 | 3 => 1 | 4 => 1 | _ => 3
theorem aw_next (j : Nat) (hj : j < 6) : (nextOf (awSt j).1 (awSt j).2 two).1 = (wantAt j, true) := by
  match j, hj with
  | 0, _ => exact (show (nextOf (awSt 0).1 (awSt 0).2 two).1 = (wantAt 0, true) by kernel_rfl)
  | 1, _ => exact (show (nextOf (awSt 1).1 (awSt 1).2 two).1 = (wantAt 1, true) by kernel_rfl)
  | 2, _ => exact (show (nextOf (awSt 2).1 (awSt 2).2 two).1 = (wantAt 2, true) by kernel_rfl)
  | 3, _ => exact (show (nextOf (awSt 3).1 (awSt 3).2 two).1 = (wantAt 3, true) by kernel_rfl)
  | 4, _ => exact (show (nextOf (awSt 4).1 (awSt 4).2 two).1 = (wantAt 4, true) by kernel_rfl)
  | 5, _ => exact (show (nextOf (awSt 5).1 (awSt 5).2 two).1 = (wantAt 5, true) by kernel_rfl)
theorem aw_end : (awSt 6).2 = 0 := by kernel_rfl
theorem aw_bnd (j : Nat) : Bnd (awSt j).1 := by
  induction j with
  | zero => intro i; simp [awSt]
  | succ j ih => exact (nextOf_bnd ih _ _).upd _ _

set_option maxRecDepth 100000 in
set_option maxHeartbeats 1600000 in
theorem awake_any (w : World) : Calls Try.prog 33 #[] w fun e w' => e = .returned (.bool true) ∧ Below w.heap.size w w' := by
  obtain ⟨B, hB⟩ : ∃ B, w.heap.size = B := ⟨_, rfl⟩
  have hb0 : Below B w w := Below.refl _ _
  rw [hB]
  have hs0 : B ≤ w.heap.size := by omega
  have HB := Lib.hid hB
  clear hB
  go_enter Try.func33, Try.ntmps33
  go_wp2_with fail
  refine (new_any _).mono ?_
  rintro e w1 ⟨rfl, hk, hm, hbel, hsz⟩
  rw [HB.out] at hk hm hbel hsz ⊢
  have hwant : Blk (w1.alloc (.cells #[.int .i64 1, .int .i64 1, .int .i64 3, .int .i64 1, .int .i64 1, .int .i64 3] 3)) (B + 2) 3 #[.int .i64 1, .int .i64 1, .int .i64 3, .int .i64 1, .int .i64 1, .int .i64 3] := by
    rw [← hsz]; exact Blk.new _ _ _
  have hA : ∀ o, Blk (w1.alloc o) (B + 1) 97 #[.map (some B)] ∧ MapIs (w1.alloc o) B 0 (awSt 0).1 (awSt 0).2 ∧ Below B w (w1.alloc o) := fun o => ⟨hk.alloc o, hm.alloc o, hbel.alloc (by omega) o⟩
  have HA := Lib.hid (And.intro hwant hA)
  clear hwant hA hk hm hbel
  go_wp2_with fail
  go_loopw [3] (fun i wr => ∃ (j n : Nat), j ≤ 6 ∧ i = .int .i64 (j : Int) ∧ n ≤ 3 * j ∧ Blk wr (B + 1) 97 #[.map (some B)] ∧ MapIs wr B n (awSt j).1 (awSt j).2 ∧ Below B w wr ∧ Blk wr (B + 2) 3 #[.int .i64 1, .int .i64 1, .int .i64 3, .int .i64 1, .int .i64 1, .int .i64 3] ∧ B + 3 ≤ wr.heap.size) (fun i _ => 6 - (intOf i).toNat)
  case atStart => exact ⟨0, 0, by omega, rfl, by omega, (HA.out.2 _).1, (HA.out.2 _).2.1, (HA.out.2 _).2.2, HA.out.1, by simp; omega⟩
  case round =>
    clear HA
    obtain ⟨j, n, hj, rfl, hn, hk, hm, hbel, hwt, hsr⟩ := hrel
    rcases (show j < 6 ∨ j = 6 by omega) with hlt | rfl
    · have hcell : wr.cell? ⟨B + 2, j, none⟩ = some (.int .i64 (wantAt j)) := by
        rw [hwt.cell]
        match j, hlt with
        | 0, _ => rfl
        | 1, _ => rfl
        | 2, _ => rfl
        | 3, _ => rfl
        | 4, _ => rfl
        | 5, _ => rfl
      have hnx := aw_next j hlt
      have hbn := aw_bnd j
      have hst : awSt (j + 1) = goSt two (awSt j) := rfl
      obtain ⟨S, hS⟩ : ∃ S, awSt j = S := ⟨_, rfl⟩
      rw [hS] at hm hnx hbn hst
      obtain ⟨W, hW⟩ : ∃ W, wantAt j = W := ⟨_, rfl⟩
      rw [hW] at hcell hnx
      have hwf : Wf W := by
        rw [← hW]
        match j, hlt with
        | 0, _ => unfold Wf; decide
        | 1, _ => unfold Wf; decide
        | 2, _ => unfold Wf; decide
        | 3, _ => unfold Wf; decide
        | 4, _ => unfold Wf; decide
        | 5, _ => unfold Wf; decide
      have hbs : Blk (wr.alloc (.cells #[.int .i64 1, .int .i64 2, .bool true, .int .i64 3, .int .i64 1, .bool true] 62)) wr.heap.size 62 #[.int .i64 1, .int .i64 2, .bool true, .int .i64 3, .int .i64 1, .bool true] := Blk.new _ _ _
      have htu : Turns (wr.alloc (.cells #[.int .i64 1, .int .i64 2, .bool true, .int .i64 3, .int .i64 1, .bool true] 62)) (.slice (some ⟨wr.heap.size, 0, none⟩) 2 2) two :=
        ⟨_, 2, rfl, Nat.le_refl _, fun _ => ⟨_, _, rfl, by simp, fun i t ht => by
          match i, ht with
          | 0, ht => simp [two] at ht; subst ht; exact ⟨hbs.cell _, hbs.cell _, hbs.cell _⟩
          | 1, ht => simp [two] at ht; subst ht; exact ⟨hbs.cell _, hbs.cell _, hbs.cell _⟩
          | i + 2, ht => simp [two] at ht⟩⟩
      have hnext := next_any (B + 1) B n _ _ two _ (by intro t ht; simp [two] at ht; rcases ht with rfl | rfl <;> (unfold Wf; decide)) (by decide) (by omega) hbn _ (hk.alloc _) (hm.alloc _) htu (by omega)
      have hbelA := fun o => hbel.alloc (by omega : B ≤ wr.heap.size) o
      have hkA := fun o => hk.alloc o
      have hwt0 : wr.cell? ⟨B + 2, j, none⟩ = #[Value.int .i64 1, .int .i64 1, .int .i64 3, .int .i64 1, .int .i64 1, .int .i64 3][j]? := hwt.cell j
      have HWT0 := Lib.hid hwt0
      clear hwt0
      have HN := Lib.hid (And.intro hnext (And.intro hnx (And.intro hbelA (And.intro (fun o => hwt.alloc o) (And.intro hbn (And.intro hkA hst))))))
      clear hnext hnx hbelA hwt hbn hst hm hk htu hbs hbel hkA
      have HS := Lib.hid hS
      clear hS
      have HW := Lib.hid hW
      clear hW
      go_wp2_with fail
      refine HN.out.1.mono ?_
      rintro e w2 ⟨rfl, hm2, hg2⟩
      rw [HN.out.2.1]
      obtain ⟨F, hF⟩ : ∃ F, (nextOf S.1 S.2 two).2.1 = F := ⟨_, rfl⟩
      obtain ⟨C, hC⟩ : ∃ C, (nextOf S.1 S.2 two).2.2 = C := ⟨_, rfl⟩
      have hbF := nextOf_bnd HN.out.2.2.2.2.1 S.2 two
      have hst2 : awSt (j + 1) = (upd F W (clamp (F W - 1)), cntUpd F W (F W - 1) C) := by
        rw [HN.out.2.2.2.2.2.2, ← hF, ← hC]
        unfold goSt
        rw [HN.out.2.1]
      rw [hF, hC] at hm2
      rw [hF] at hbF
      have hk2 := (HN.out.2.2.2.2.2.1 _).grown hg2 (by intro e; injection e with e; omega)
      have hw2 := (HN.out.2.2.2.1 _).grown hg2 (by intro e; injection e with e; omega)
      have hb2 := below_only (HN.out.2.2.1 _) hg2 (Nat.le_refl _) (by simp; omega)
      have hcell2 : w2.cell? ⟨B + 2, j, none⟩ = some (.int .i64 W) := by rw [hw2.cell, ← HWT0.out]; exact hcell
      have hsz2 : B + 3 ≤ w2.heap.size := by have := hg2.size; simp at this; omega
      clear hcell hg2 hF hC HN
      have hch := charge_ok (B + 1) B (n + two.length) C F W 1 hwf (by omega) (by omega) hbF (by unfold maxLen; simp [two]; omega) (fun h0 => MapIs.pos hm2 hwf h0) w2 hk2 hm2
      have H2 := Lib.hid (And.intro hk2 (And.intro hw2 (And.intro hb2 (And.intro hst2 hch))))
      clear hk2 hw2 hb2 hst2 hch hm2 hbF
      go_wp2_with fail
      refine H2.out.2.2.2.2.mono ?_
      rintro e w3 ⟨rfl, hm3, hg3⟩
      have hk3 := H2.out.1.grown hg3 (by intro e; injection e with e; omega)
      have hw3 := H2.out.2.1.grown hg3 (by intro e; injection e with e; omega)
      have hb3 := below_only H2.out.2.2.1 hg3 (Nat.le_refl _) (by omega)
      have hsz3 : B + 3 ≤ w3.heap.size := by have := hg3.size; omega
      have H3 := Lib.hid (And.intro hm3 (And.intro hk3 (And.intro hw3 hb3)))
      clear hm3 hk3 hw3 hb3 hg3 hcell2
      go_wp2_with fail
      go_roundw
      case rel => exact ⟨j + 1, n + two.length + 1, by omega, by go_num, by simp [two]; omega, H3.out.2.1, by rw [H2.out.2.2.2.1]; exact H3.out.1, H3.out.2.2.2, H3.out.2.2.1, hsz3⟩
      case measure => simp [intOf]; omega
    · have hlen := len_any (B + 1) B n (awSt 6).2 (awSt 6).1 wr (by rw [aw_end]; omega) hk hm
      rw [aw_end] at hlen
      have HL := Lib.hid (And.intro hlen hbel)
      clear hlen hbel hk hm hwt
      go_wp2_with fail
      refine HL.out.1.mono ?_
      rintro e w2 ⟨rfl, hb2⟩
      go_wp2_with fail
      go_ret
      exact ⟨rfl, HL.out.2.trans (hb2.mono (by omega))⟩

end Go.Proofs.Ytdcdfhonkjmpeaa.Pick
