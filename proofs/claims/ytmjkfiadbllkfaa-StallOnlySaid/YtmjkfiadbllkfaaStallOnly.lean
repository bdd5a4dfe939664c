import Derived.Test.YtmjkfiadbllkfaaStallAw
namespace Go.Proofs.Ytmjkfiadbllkfaa.StallOnly
open Go.ChangeShapes Go.WideShapes Go.ChangeAt Go.RowKit Go.Deep
set_option linter.unusedVariables false
open Stall

/-- What a round of the loop starts from. -/
def Rel (g : Nat) (K : Int) (w : World) (k : Nat) (now since : Int) (wr : World) : Prop :=
  ∃ (a s : Int) (stuck : Bool), 0 ≤ a ∧ a ≤ now ∧ now ≤ 39 * (k : Int) ∧ (stuck = true ∧ since = s ∧ 0 ≤ s ∧ s ≤ now ∨ stuck = false ∧ since = -1) ∧
    Blk wr g 81 (St.cells ⟨K, a, s, stuck, false⟩) ∧ Below g w wr

theorem tick_of (nw y : Int) (h0 : 0 ≤ nw) (h1 : nw ≤ 10000) : ∃ m, wrap64 (nw + wrap64 ((IntKind.u64.wrap y).tmod 40)) = m ∧ nw ≤ m ∧ m ≤ nw + 39 := by
  have hb : 0 ≤ IntKind.u64.wrap y := by rw [IntKind.wrap_u64]; omega
  have h2 : 0 ≤ (IntKind.u64.wrap y).tmod 40 ∧ (IntKind.u64.wrap y).tmod 40 ≤ 39 := by
    rw [Int.tmod_eq_emod_of_nonneg hb]
    omega
  generalize (IntKind.u64.wrap y).tmod 40 = z at h2
  obtain ⟨h3, h4⟩ := h2
  refine ⟨nw + z, ?_, by omega, by omega⟩
  rw [IntWalk.wrap64_in z ⟨by omega, by omega⟩, IntWalk.wrap64_in _ ⟨by omega, by omega⟩]

set_option maxRecDepth 100000 in
set_option maxHeartbeats 1600000 in
theorem walk (w : World) (lim : Int) (hlim : (Lit.int .u8 lim).wf = true) (A : Option Addr) (n c : Nat) (hn : n ≤ c) (hc : c ≤ maxLen) (he : Elems w A n [IsBool, IsBool, IsInt .i64]) :
    Calls Try.prog 3 #[.int .u8 lim, .slice A n c] w fun e w' => e = .returned (.bool true) ∧ Below w.heap.size w w' := by
  have hbd := bounds_u8 hlim
  clear hlim
  clear hc
  obtain ⟨B, hg⟩ : ∃ g, w.heap.size = g := ⟨_, rfl⟩
  have hb0 : Below B w w := Below.refl _ _
  have hs0 : B ≤ w.heap.size := by omega
  have HG := Lib.hid hg
  clear hg
  have HE := Lib.hid he
  clear he
  obtain ⟨hl0, hl1⟩ := hbd
  go_enter Try.func3, Try.ntmps3
  go_wp2_with fail
  refine (new_any _ _ (by omega) (by omega)).mono ?_
  rintro e w1 ⟨rfl, hw1⟩
  rw [HG.out]
  have hk1 : Blk w1 B 81 (St.cells ⟨lim + 1, 0, 0, false, false⟩) := by rw [hw1, ← HG.out]; exact Blk.new _ _ _
  have hb1 : Below B w w1 := by rw [hw1]; exact hb0.alloc hs0 _
  have hs1 : B ≤ w1.heap.size := Nat.le_trans hs0 hb1.size
  clear hw1
  go_wp2_with fail
  refine (awake_any _).mono ?_
  rintro e w3 ⟨rfl, hb⟩
  have hk3 := hk1.below hb hk1.lt
  have hb3 := hb1.trans (hb.mono hs1)
  clear hk1 hb1 hs1 hb
  go_wp2_with fail
  go_loopw [8, 9, 10] (fun now since i wr => ∃ (k : Nat) (nw sc : Int), k ≤ n ∧ k ≤ 150 ∧ i = .int .i64 k ∧ now = .int .i64 nw ∧ since = .int .i64 sc ∧ Rel B (lim + 1) w k nw sc wr) (fun _ _ i _ => n - (intOf i).toNat)
  case atStart => exact ⟨0, 0, -1, Nat.zero_le _, Nat.zero_le _, rfl, rfl, rfl, 0, 0, false, by omega, by omega, by simp, .inr ⟨rfl, rfl⟩, hk3, hb3⟩
  case round =>
    clear hb0 hk3 hb3 hs0
    obtain ⟨k, nw, sc, hk, hk150, rfl, rfl, rfl, hR⟩ := hrel
    by_cases hlt : k < n
    · by_cases h150 : k < 150
      · obtain ⟨b, off, rfl, hbw, hcell⟩ := HE.out (by omega)
        obtain ⟨v0, c0, bl0, rfl⟩ := hcell k hlt 0 _ rfl
        obtain ⟨v1, c1, bl1, rfl⟩ := hcell k hlt 1 _ rfl
        obtain ⟨v2, c2, by_, rfl, wby⟩ := hcell k hlt 2 _ rfl
        clear hcell
        obtain ⟨a, s, stuck, ha0, ha1, hnw, hst, hblk, hbel⟩ := hR
        rw [← hbel.cell (p := ⟨b, _, none⟩) (by rw [← HG.out]; exact hbw)] at c0 c1 c2
        have HST := Lib.hid hst
        clear hst
        have WBY := Lib.hid wby
        clear wby
        have HB := Lib.hid hblk
        clear hblk
        have d0 : wr.cell? ⟨b, off + k * 3, none⟩ = some (.bool bl0) := c0
        have d1 : wr.cell? ⟨b, off + k * 3 + 1, none⟩ = some (.bool bl1) := c1
        have d2 : wr.cell? ⟨b, off + k * 3 + 2, none⟩ = some (.int .i64 by_) := c2
        clear c0 c1 c2
        have hsz : B ≤ wr.heap.size := by rw [← HG.out]; exact hbel.size
        obtain ⟨m, hm, hm0, hm1⟩ := tick_of nw by_ (by omega) (by omega)
        have hma : m = max a m := by omega
        have HMA := Lib.hid hma
        clear hma
        have hBA : ∀ o, Blk (wr.alloc o) B 81 (St.cells ⟨lim + 1, a, s, stuck, false⟩) := fun o => HB.out.alloc o
        have HBA := Lib.hid hBA
        clear hBA
        have hbelA : ∀ o, Below B w (wr.alloc o) := fun o => hbel.alloc hsz o
        have HBELA := Lib.hid hbelA
        clear hbelA
        have hszA : ∀ o, B ≤ (wr.alloc o).heap.size := fun o => Nat.le_trans hsz (by simp)
        have HSZA := Lib.hid hszA
        clear hszA
        have HBEL := Lib.hid hbel
        clear hbel
        rcases HST.out with ⟨rfl, rfl, hs0, hs1⟩ | ⟨rfl, rfl⟩
        · clear HST
          cases bl0 with
          | true =>
            go_wp2_with (go_at_call 17; go_must (refine (credit_stuck B _ a sc m m HMA.out _ (HBA.out _)).mono ?_); rintro e w4 ⟨rfl, hk4, hg4⟩)
            go_roundw
            case rel => exact ⟨k + 1, m, m, by omega, by omega, by go_num, rfl, rfl, m, m, true, by omega, by omega, by omega, .inl ⟨rfl, rfl, by omega, by omega⟩, hk4, below_only (HBELA.out _) hg4 (Nat.le_refl _) (HSZA.out _)⟩
            case measure => simp [intOf]; omega
          | false =>
            cases bl1 with
            | false =>
              go_wp2_with (go_at_call 18; go_must (refine (step_free B _ a sc m m HMA.out true _ (by omega) (HBA.out _)).mono ?_); rintro e w4 ⟨rfl, hk4, hg4⟩)
              go_roundw
              case rel => exact ⟨k + 1, m, -1, by omega, by omega, by go_num, rfl, rfl, m, 0, false, by omega, by omega, by omega, .inr ⟨rfl, rfl⟩, hk4, below_only (HBELA.out _) hg4 (Nat.le_refl _) (HSZA.out _)⟩
              case measure => simp [intOf]; omega
            | true =>
              by_cases hlong : lim + 1 ≤ m - sc
              · have hr : true = decide (lim + 1 ≤ m - sc) := by simp; omega
                have HR := Lib.hid hr
                clear hr
                go_wp2_with (go_at_call 18; go_must (refine (step_long B _ a sc m m HMA.out true HR.out _ (by omega) (by omega) (by omega) (by omega) (HBA.out _)).mono ?_); rintro e w4 ⟨rfl, hk4, hg4⟩)
                go_ret
                exact ⟨rfl, HG.out ▸ below_only (HBELA.out _) hg4 (Nat.le_refl _) (HSZA.out _)⟩
              · have hr : false = decide (lim + 1 ≤ m - sc) := by simp; omega
                have HR := Lib.hid hr
                clear hr
                go_wp2_with (go_at_call 18; go_must (refine (step_long B _ a sc m m HMA.out false HR.out _ (by omega) (by omega) (by omega) (by omega) (HBA.out _)).mono ?_); rintro e w4 ⟨rfl, hk4, hg4⟩)
                go_roundw
                case rel => exact ⟨k + 1, m, sc, by omega, by omega, by go_num, rfl, rfl, m, sc, true, by omega, by omega, by omega, .inl ⟨rfl, rfl, by omega, by omega⟩, hk4, below_only (HBELA.out _) hg4 (Nat.le_refl _) (HSZA.out _)⟩
                case measure => simp [intOf]; omega
        · clear HST
          cases bl0 with
          | true =>
            go_wp2_with (go_at_call 17; go_must (refine (credit_free B _ a s m m HMA.out _ (HBA.out _)).mono ?_); rintro e w4 ⟨rfl, hk4, hg4⟩)
            go_roundw
            case rel => exact ⟨k + 1, m, -1, by omega, by omega, by go_num, rfl, rfl, m, s, false, by omega, by omega, by omega, .inr ⟨rfl, rfl⟩, hk4, below_only (HBELA.out _) hg4 (Nat.le_refl _) (HSZA.out _)⟩
            case measure => simp [intOf]; omega
          | false =>
            cases bl1 with
            | false =>
              go_wp2_with (go_at_call 18; go_must (refine (step_free B _ a s m m HMA.out false _ (by omega) (HBA.out _)).mono ?_); rintro e w4 ⟨rfl, hk4, hg4⟩)
              go_roundw
              case rel => exact ⟨k + 1, m, -1, by omega, by omega, by go_num, rfl, rfl, m, 0, false, by omega, by omega, by omega, .inr ⟨rfl, rfl⟩, hk4, below_only (HBELA.out _) hg4 (Nat.le_refl _) (HSZA.out _)⟩
              case measure => simp [intOf]; omega
            | true =>
              have hlong : ¬ lim + 1 ≤ m - m := by omega
              go_wp2_with (go_at_call 18; go_must (refine (step_first B _ a s m m HMA.out _ (by omega) (by omega) (by omega) (HBA.out _)).mono ?_); rintro e w4 ⟨rfl, hk4, hg4⟩)
              go_roundw
              case rel => exact ⟨k + 1, m, m, by omega, by omega, by go_num, rfl, rfl, m, m, true, by omega, by omega, by omega, .inl ⟨rfl, rfl, by omega, by omega⟩, hk4, below_only (HBELA.out _) hg4 (Nat.le_refl _) (HSZA.out _)⟩
              case measure => simp [intOf]; omega
      · obtain ⟨a, s, stuck, _, _, _, _, _, hbel⟩ := hR
        go_wp2
        go_ret
        exact ⟨rfl, HG.out ▸ hbel⟩
    · obtain ⟨a, s, stuck, _, _, _, _, _, hbel⟩ := hR
      go_wp2
      go_ret
      exact ⟨rfl, HG.out ▸ hbel⟩

end Go.Proofs.Ytmjkfiadbllkfaa.StallOnly
