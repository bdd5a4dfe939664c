import Derived.Test.YtmjkfiadbllkfaaDrainLaws
namespace Go.Proofs.Ytmjkfiadbllkfaa.DrainEnds
open Go.ChangeShapes Go.WideShapes Go.ChangeAt Go.RowKit Go.Deep
set_option linter.unusedVariables false
open Drain DrainLaws

set_option maxRecDepth 100000 in
set_option maxHeartbeats 3200000 in
theorem walk_with (w : World) (lim : Int) (hl0 : 0 ≤ lim) (hl1 : lim ≤ 255) (got : Bool) (A : Option Addr) (n c : Nat) (he : Elems w A n [IsInt .u8]) :
    Calls Try.prog 12 #[.int .u8 lim, .bool got, .slice A n c] w fun e w' => e = .returned (.bool true) ∧ Below w.heap.size w w' := by
  have HE := Lib.hid he
  clear he
  obtain ⟨B, hB⟩ : ∃ g, w.heap.size = g := ⟨_, rfl⟩
  have hb0 : Below B w w := Below.refl _ _
  have hs0 : B ≤ w.heap.size := by omega
  have HG := Lib.hid hB
  clear hB
  cases got with
  | false =>
    go_enter Try.func12, Try.ntmps12
    go_wp2_with fail
    refine (new_any _).mono ?_
    rintro e w1 ⟨rfl, hw1⟩
    rw [HG.out]
    have hk1 : Blk w1 B 93 (D.cells ⟨false, false, false, 0, 0, 0⟩) := by rw [hw1, ← HG.out]; exact Blk.new _ _ _
    have hb1 : Below B w w1 := by rw [hw1]; exact hb0.alloc hs0 _
    have hs1 : B ≤ w1.heap.size := Nat.le_trans hs0 hb1.size
    clear hw1
    go_wp2_with fail
    refine (awake_any _).mono ?_
    rintro e w3 ⟨rfl, hm3⟩
    have hk3 := hk1.below hm3 hk1.lt
    have hb3 := hb1.trans (hm3.mono hs1)
    have hs3 : B ≤ w3.heap.size := Nat.le_trans hs0 hb3.size
    clear hk1 hb1 hs1 hm3
    go_wp2_with fail
    refine (step_any B _ _ _ _ _ _ 0 ⟨false, false, false, 0, 0, 0⟩ false (by simp [stepF]) rfl _ hk3).mono ?_
    rintro e w4 ⟨rfl, hk4, hg4⟩
    have hb4 := below_only hb3 hg4 (Nat.le_refl _) hs3
    have hs4 : B ≤ w4.heap.size := Nat.le_trans hs0 hb4.size
    clear hk3 hb3 hs3 hg4
    go_wp2_with fail
    refine (send_any B _ _ _ _ _ _ lim 0 ⟨true, false, false, lim, 0, 0⟩ (by simp [sendF]; omega) _ hk4).mono ?_
    rintro e w5 ⟨rfl, hk5, hg5⟩
    have hb5 := below_only hb4 hg5 (Nat.le_refl _) hs4
    have hs5 : B ≤ w5.heap.size := Nat.le_trans hs0 hb5.size
    clear hk4 hb4 hs4 hg5
    go_wp2_with fail
    go_loopw [8] (fun i wr => ∃ (k : Nat), k ≤ n ∧ k ≤ 60 ∧ i = .int .i64 k ∧ Blk wr B 93 (D.cells ⟨true, false, false, lim, 0, 0⟩) ∧ Below B w wr) (fun i _ => n - (intOf i).toNat)
    case atStart => exact ⟨0, Nat.zero_le _, Nat.zero_le _, rfl, hk5, hb5⟩
    case round =>
      clear hb0 hk5 hb5 hs0 hs5
      obtain ⟨k, hk, hk60, rfl, hblk, hbel⟩ := hrel
      have hin : k < n ∧ k < 60 ∨ ¬ (k < n ∧ k < 60) := by omega
      rcases hin with ⟨hlt, h60⟩ | hout
      · obtain ⟨b, off, rfl, hbw, hcell⟩ := HE.out (by omega)
        obtain ⟨v0, c0, x, rfl, wx⟩ := hcell k hlt 0 _ rfl
        obtain ⟨x0, x255⟩ := bounds_u8 wx
        clear hcell wx
        rw [← hbel.cell (p := ⟨b, _, none⟩) (by rw [← HG.out]; exact hbw)] at c0
        have d0 : wr.cell? ⟨b, off + k, none⟩ = some (.int .u8 x) := by simpa using c0
        have hsz : B ≤ wr.heap.size := by rw [← HG.out]; exact hbel.size
        have hbB : b < B := by rw [← HG.out]; exact hbw
        clear c0 hbw
        have HB := Lib.hid hblk
        clear hblk
        have HBEL := Lib.hid hbel
        clear hbel
        by_cases hz : x % 4 = 0
        · have hz1 : (x % 4 == 0) = true := by simp; omega
          have hz2 : x % 4 ≤ 0 := by omega
          have hf : (⟨true, false, true, lim, 0, 0⟩ : D) = stepF ⟨true, false, false, lim, 0, 0⟩ (x % 4) := by unfold stepF; rw [if_pos ⟨rfl, by simp, hz2⟩]
          clear hz
          have HF := Lib.hid hf
          clear hf
          go_wp2_with fail
          refine (step_any B _ _ _ _ _ _ _ _ true HF.out rfl _ HB.out).mono ?_
          rintro e w4 ⟨rfl, hk4, hg4⟩
          have d4 : w4.cell? ⟨b, off + k, none⟩ = some (.int .u8 x) := by rw [only_cell hg4 (p := ⟨b, _, none⟩) (Nat.lt_of_lt_of_le hbB hsz) (by simp; omega)]; exact d0
          have hb4 := below_only HBEL.out hg4 (Nat.le_refl _) hsz
          have hs4 : B ≤ w4.heap.size := Nat.le_trans hsz hg4.size
          clear d0 hg4
          have HK4 := Lib.hid hk4
          clear hk4
          have HB4 := Lib.hid hb4
          clear hb4
          go_wp2_with fail
          refine (mayopen_any B _ _ _ _ _ _ false rfl _ HK4.out).mono ?_
          rintro e wx ⟨rfl, rfl⟩
          go_wp2_with fail
          refine (takes_any B _ _ _ _ _ _ 1 false rfl _ HK4.out).mono ?_
          rintro e wx ⟨rfl, rfl⟩
          go_wp2_with fail
          refine (send_any B _ _ _ _ _ _ 3 14 ⟨true, false, true, lim, 0, 0⟩ (by simp [sendF]) _ HK4.out).mono ?_
          rintro e w6 ⟨rfl, hk6, hg6⟩
          have hb6 := below_only HB4.out hg6 (Nat.le_refl _) hs4
          clear hk6 hg6
          go_wp2_with fail
          go_ret
          exact ⟨rfl, HG.out ▸ hb6⟩
        · have hz1 : (x % 4 == 0) = false := by simp; omega
          have hz2 : ¬ x % 4 ≤ 0 := by omega
          have hf : (⟨true, false, false, lim, 0, 0⟩ : D) = stepF ⟨true, false, false, lim, 0, 0⟩ (x % 4) := by unfold stepF; rw [if_neg (fun h => hz2 h.2.2)]
          clear hz
          have HF := Lib.hid hf
          clear hf
          go_wp2_with fail
          refine (step_any B _ _ _ _ _ _ _ _ false HF.out rfl _ HB.out).mono ?_
          rintro e w4 ⟨rfl, hk4, hg4⟩
          have d4 : w4.cell? ⟨b, off + k, none⟩ = some (.int .u8 x) := by rw [only_cell hg4 (p := ⟨b, _, none⟩) (Nat.lt_of_lt_of_le hbB hsz) (by simp; omega)]; exact d0
          have hb4 := below_only HBEL.out hg4 (Nat.le_refl _) hsz
          clear d0 hg4
          have HK4 := Lib.hid hk4
          clear hk4
          have HB4 := Lib.hid hb4
          clear hb4
          go_wp2_with fail
          go_roundw
          case rel => exact ⟨k + 1, by omega, by omega, by go_num, HK4.out, HB4.out⟩
          case measure => simp [intOf]; omega
      · skip
        have HB := Lib.hid hblk
        clear hblk
        by_cases hlt : k < n
        · have h60 : ¬ k < 60 := by omega
          clear hout
          go_wp2_with fail
          refine (over_any B _ _ _ _ _ _ _ HB.out).mono ?_
          rintro e w4 ⟨rfl, nd, rfl⟩
          go_wp2_with fail
          go_ret
          exact ⟨rfl, HG.out ▸ below_drewN hbel nd⟩
        · clear hout
          go_wp2_with fail
          refine (over_any B _ _ _ _ _ _ _ HB.out).mono ?_
          rintro e w4 ⟨rfl, nd, rfl⟩
          go_wp2_with fail
          go_ret
          exact ⟨rfl, HG.out ▸ below_drewN hbel nd⟩
  | true =>
    go_enter Try.func12, Try.ntmps12
    go_wp2_with fail
    refine (new_any _).mono ?_
    rintro e w1 ⟨rfl, hw1⟩
    rw [HG.out]
    have hk1 : Blk w1 B 93 (D.cells ⟨false, false, false, 0, 0, 0⟩) := by rw [hw1, ← HG.out]; exact Blk.new _ _ _
    have hb1 : Below B w w1 := by rw [hw1]; exact hb0.alloc hs0 _
    have hs1 : B ≤ w1.heap.size := Nat.le_trans hs0 hb1.size
    clear hw1
    go_wp2_with fail
    refine (awake_any _).mono ?_
    rintro e w3 ⟨rfl, hm3⟩
    have hk3 := hk1.below hm3 hk1.lt
    have hb3 := hb1.trans (hm3.mono hs1)
    have hs3 : B ≤ w3.heap.size := Nat.le_trans hs0 hb3.size
    clear hk1 hb1 hs1 hm3
    go_wp2_with fail
    refine (step_any B _ _ _ _ _ _ 0 ⟨false, false, false, 0, 0, 0⟩ false (by simp [stepF]) rfl _ hk3).mono ?_
    rintro e w4 ⟨rfl, hk4, hg4⟩
    have hb4 := below_only hb3 hg4 (Nat.le_refl _) hs3
    have hs4 : B ≤ w4.heap.size := Nat.le_trans hs0 hb4.size
    clear hk3 hb3 hs3 hg4
    go_wp2_with fail
    refine (got_any B _ _ _ _ _ _ lim 0 0 ⟨false, true, false, 0, lim, 0⟩ (by simp [gotF]; omega) _ hk4).mono ?_
    rintro e w5 ⟨rfl, hk5, hg5⟩
    have hb5 := below_only hb4 hg5 (Nat.le_refl _) hs4
    have hs5 : B ≤ w5.heap.size := Nat.le_trans hs0 hb5.size
    clear hk4 hb4 hs4 hg5
    go_wp2_with fail
    go_loopw [8] (fun i wr => ∃ (k : Nat), k ≤ n ∧ k ≤ 60 ∧ i = .int .i64 k ∧ Blk wr B 93 (D.cells ⟨false, true, false, 0, lim, 0⟩) ∧ Below B w wr) (fun i _ => n - (intOf i).toNat)
    case atStart => exact ⟨0, Nat.zero_le _, Nat.zero_le _, rfl, hk5, hb5⟩
    case round =>
      clear hb0 hk5 hb5 hs0 hs5
      obtain ⟨k, hk, hk60, rfl, hblk, hbel⟩ := hrel
      have hin : k < n ∧ k < 60 ∨ ¬ (k < n ∧ k < 60) := by omega
      rcases hin with ⟨hlt, h60⟩ | hout
      · obtain ⟨b, off, rfl, hbw, hcell⟩ := HE.out (by omega)
        obtain ⟨v0, c0, x, rfl, wx⟩ := hcell k hlt 0 _ rfl
        obtain ⟨x0, x255⟩ := bounds_u8 wx
        clear hcell wx
        rw [← hbel.cell (p := ⟨b, _, none⟩) (by rw [← HG.out]; exact hbw)] at c0
        have d0 : wr.cell? ⟨b, off + k, none⟩ = some (.int .u8 x) := by simpa using c0
        have hsz : B ≤ wr.heap.size := by rw [← HG.out]; exact hbel.size
        have hbB : b < B := by rw [← HG.out]; exact hbw
        clear c0 hbw
        have HB := Lib.hid hblk
        clear hblk
        have HBEL := Lib.hid hbel
        clear hbel
        by_cases hz : x % 4 = 0
        · have hz1 : (x % 4 == 0) = true := by simp; omega
          have hz2 : x % 4 ≤ 0 := by omega
          have hf : (⟨false, true, true, 0, lim, 0⟩ : D) = stepF ⟨false, true, false, 0, lim, 0⟩ (x % 4) := by unfold stepF; rw [if_pos ⟨rfl, by simp, hz2⟩]
          clear hz
          have HF := Lib.hid hf
          clear hf
          go_wp2_with fail
          refine (step_any B _ _ _ _ _ _ _ _ true HF.out rfl _ HB.out).mono ?_
          rintro e w4 ⟨rfl, hk4, hg4⟩
          have d4 : w4.cell? ⟨b, off + k, none⟩ = some (.int .u8 x) := by rw [only_cell hg4 (p := ⟨b, _, none⟩) (Nat.lt_of_lt_of_le hbB hsz) (by simp; omega)]; exact d0
          have hb4 := below_only HBEL.out hg4 (Nat.le_refl _) hsz
          have hs4 : B ≤ w4.heap.size := Nat.le_trans hsz hg4.size
          clear d0 hg4
          have HK4 := Lib.hid hk4
          clear hk4
          have HB4 := Lib.hid hb4
          clear hb4
          go_wp2_with fail
          refine (mayopen_any B _ _ _ _ _ _ false rfl _ HK4.out).mono ?_
          rintro e wx ⟨rfl, rfl⟩
          go_wp2_with fail
          refine (takes_any B _ _ _ _ _ _ 1 false rfl _ HK4.out).mono ?_
          rintro e wx ⟨rfl, rfl⟩
          go_wp2_with fail
          refine (send_any B _ _ _ _ _ _ 3 14 ⟨false, true, true, 0, lim, 0⟩ (by simp [sendF]) _ HK4.out).mono ?_
          rintro e w6 ⟨rfl, hk6, hg6⟩
          have hb6 := below_only HB4.out hg6 (Nat.le_refl _) hs4
          clear hk6 hg6
          go_wp2_with fail
          go_ret
          exact ⟨rfl, HG.out ▸ hb6⟩
        · have hz1 : (x % 4 == 0) = false := by simp; omega
          have hz2 : ¬ x % 4 ≤ 0 := by omega
          have hf : (⟨false, true, false, 0, lim, 0⟩ : D) = stepF ⟨false, true, false, 0, lim, 0⟩ (x % 4) := by unfold stepF; rw [if_neg (fun h => hz2 h.2.2)]
          clear hz
          have HF := Lib.hid hf
          clear hf
          go_wp2_with fail
          refine (step_any B _ _ _ _ _ _ _ _ false HF.out rfl _ HB.out).mono ?_
          rintro e w4 ⟨rfl, hk4, hg4⟩
          have d4 : w4.cell? ⟨b, off + k, none⟩ = some (.int .u8 x) := by rw [only_cell hg4 (p := ⟨b, _, none⟩) (Nat.lt_of_lt_of_le hbB hsz) (by simp; omega)]; exact d0
          have hb4 := below_only HBEL.out hg4 (Nat.le_refl _) hsz
          clear d0 hg4
          have HK4 := Lib.hid hk4
          clear hk4
          have HB4 := Lib.hid hb4
          clear hb4
          go_wp2_with fail
          go_roundw
          case rel => exact ⟨k + 1, by omega, by omega, by go_num, HK4.out, HB4.out⟩
          case measure => simp [intOf]; omega
      · skip
        have HB := Lib.hid hblk
        clear hblk
        by_cases hlt : k < n
        · have h60 : ¬ k < 60 := by omega
          clear hout
          go_wp2_with fail
          refine (over_any B _ _ _ _ _ _ _ HB.out).mono ?_
          rintro e w4 ⟨rfl, nd, rfl⟩
          go_wp2_with fail
          go_ret
          exact ⟨rfl, HG.out ▸ below_drewN hbel nd⟩
        · clear hout
          go_wp2_with fail
          refine (over_any B _ _ _ _ _ _ _ HB.out).mono ?_
          rintro e w4 ⟨rfl, nd, rfl⟩
          go_wp2_with fail
          go_ret
          exact ⟨rfl, HG.out ▸ below_drewN hbel nd⟩

theorem walk (w : World) (lim : Int) (hlim : (Lit.int .u8 lim).wf = true) (got : Bool) (A : Option Addr) (n c : Nat) (hn : n ≤ c) (hc : c ≤ maxLen) (he : Elems w A n [IsInt .u8]) :
    Calls Try.prog 12 #[.int .u8 lim, .bool got, .slice A n c] w fun e w' => e = .returned (.bool true) ∧ Below w.heap.size w w' :=
  walk_with w lim (bounds_u8 hlim).1 (bounds_u8 hlim).2 got A n c he

end Go.Proofs.Ytmjkfiadbllkfaa.DrainEnds
