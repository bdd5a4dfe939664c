import Derived.Test.YtmjkfiadbllkfaaDrainLaws
namespace Go.Proofs.Ytmjkfiadbllkfaa.DrainDoes
open Go.ChangeShapes Go.WideShapes Go.ChangeAt Go.RowKit Go.Deep
set_option linter.unusedVariables false
open Drain DrainLaws

def Rel (B : Nat) (w : World) (wr : World) : Prop :=
  ∃ s q o : Int, Inv s q o ∧ Blk wr B 93 (conc s q o).cells ∧ Blk wr (B + 1) 77 (R s q o) ∧ Below B w wr

theorem conc_of (s q o : Int) (bs bq bo : Bool) (ls lq lo : Int) (h1 : bs = true ∧ 0 ≤ s ∧ ls = s ∨ bs = false ∧ s < 0 ∧ ls = 0) (h2 : bq = true ∧ 0 ≤ q ∧ lq = q ∨ bq = false ∧ q < 0 ∧ lq = 0) (h3 : bo = true ∧ 0 ≤ o ∧ lo = o ∨ bo = false ∧ o < 0 ∧ lo = 0) :
    conc s q o = ⟨bs, bq, bo, ls, lq, lo⟩ := by
  unfold conc
  rcases h1 with ⟨rfl, a, rfl⟩ | ⟨rfl, a, rfl⟩ <;> rcases h2 with ⟨rfl, b, rfl⟩ | ⟨rfl, b, rfl⟩ <;> rcases h3 with ⟨rfl, d, rfl⟩ | ⟨rfl, d, rfl⟩ <;>
    simp <;> omega

set_option maxRecDepth 100000 in
set_option maxHeartbeats 12800000 in
theorem walk (w : World) (A : Option Addr) (n c : Nat) (hn : n ≤ c) (hc : c ≤ maxLen) (he : Elems w A n [IsInt .i64, IsInt .i64, IsInt .i64]) (id : Int) (_ : (Lit.int .i64 id).wf = true) :
    Calls Try.prog 13 #[.slice A n c, .int .i64 id] w fun e w' => e = .returned (.bool true) ∧ Below w.heap.size w w' := by
  clear hc
  have HE := Lib.hid he
  clear he
  obtain ⟨B, hB⟩ : ∃ g, w.heap.size = g := ⟨_, rfl⟩
  have hb0 : Below B w w := Below.refl _ _
  have hs0 : B ≤ w.heap.size := by omega
  have HG := Lib.hid hB
  clear hB
  go_enter Try.func13, Try.ntmps13
  go_wp2_with fail
  refine (new_any _).mono ?_
  rintro e w1 ⟨rfl, hw1⟩
  rw [HG.out]
  have hk1 : Blk w1 B 93 (D.cells ⟨false, false, false, 0, 0, 0⟩) := by rw [hw1, ← HG.out]; exact Blk.new _ _ _
  have hb1 : Below B w w1 := by rw [hw1]; exact hb0.alloc hs0 _
  have hz1 : w1.heap.size = B + 1 := by rw [hw1, ← HG.out]; simp
  clear hw1
  go_wp2_with fail
  refine (refnew_any _).mono ?_
  rintro e w2 ⟨rfl, hw2⟩
  rw [hz1]
  have hx2 : Blk w2 (B + 1) 77 (R (-1) (-1) (-1)) := by rw [hw2, ← hz1]; exact Blk.new _ _ _
  have hk2 : Blk w2 B 93 (D.cells ⟨false, false, false, 0, 0, 0⟩) := by rw [hw2]; exact hk1.alloc _
  have hb2 : Below B w w2 := by rw [hw2]; exact hb1.alloc (by omega) _
  have hs2 : B ≤ w2.heap.size := Nat.le_trans hs0 hb2.size
  clear hw2 hz1 hk1 hb1
  go_wp2_with fail
  refine (awake_any _).mono ?_
  rintro e w3 ⟨rfl, hm3⟩
  have hk3 := hk2.below hm3 hk2.lt
  have hx3 := hx2.below hm3 hx2.lt
  have hb3 := hb2.trans (hm3.mono hs2)
  clear hk2 hx2 hb2 hs2 hm3
  go_wp2_with fail
  go_loopw [7] (fun i wr => ∃ k : Nat, k ≤ n ∧ k ≤ 60 ∧ i = .int .i64 k ∧ Rel B w wr) (fun i _ => n - (intOf i).toNat)
  case atStart => exact ⟨0, Nat.zero_le _, Nat.zero_le _, rfl, -1, -1, -1, ⟨by omega, by omega, by omega⟩, (by rw [conc_of (-1) (-1) (-1) false false false 0 0 0 (.inr ⟨rfl, by omega, rfl⟩) (.inr ⟨rfl, by omega, rfl⟩) (.inr ⟨rfl, by omega, rfl⟩)]; exact hk3), hx3, hb3⟩
  case round =>
    clear hb0 hk3 hx3 hb3 hs0
    obtain ⟨k, hk, hk60, rfl, s, q, o, hinv, hblk, hxb, hbel⟩ := hrel
    have hin : k < n ∧ k < 60 ∨ ¬ (k < n ∧ k < 60) := by omega
    rcases hin with ⟨hlt, h60⟩ | hout
    · obtain ⟨b, off, rfl, hbw, hcell⟩ := HE.out (by omega)
      obtain ⟨v0, c0, x, rfl, wx⟩ := hcell k hlt 0 _ rfl
      obtain ⟨v1, c1, y, rfl, wy⟩ := hcell k hlt 1 _ rfl
      obtain ⟨v2, c2, z, rfl, wz⟩ := hcell k hlt 2 _ rfl
      clear hcell wx wy wz
      rw [← hbel.cell (p := ⟨b, _, none⟩) (by rw [← HG.out]; exact hbw)] at c0 c1 c2
      have d0 : wr.cell? ⟨b, off + k * 3, none⟩ = some (.int .i64 x) := c0
      have d1 : wr.cell? ⟨b, off + k * 3 + 1, none⟩ = some (.int .i64 y) := c1
      have d2 : wr.cell? ⟨b, off + k * 3 + 2, none⟩ = some (.int .i64 z) := c2
      have hsz : B ≤ wr.heap.size := by rw [← HG.out]; exact hbel.size
      clear c0 c1 c2 hbw
      have HBEL := Lib.hid hbel
      clear hbel
      have HXB := Lib.hid hxb
      clear hxb
      have ho : o < 0 ∨ 0 ≤ o := by omega
      rcases ho with ho | ho
      · have hdec : Blk wr B 93 (D.cells ⟨decide (0 ≤ s), decide (0 ≤ q), false, if 0 ≤ s then s else 0, if 0 ≤ q then q else 0, 0⟩) := by
          have e : conc s q o = ⟨decide (0 ≤ s), decide (0 ≤ q), false, if 0 ≤ s then s else 0, if 0 ≤ q then q else 0, 0⟩ := by unfold conc; simp; omega
          rw [← e]; exact hblk
        have HB := Lib.hid hblk
        clear hblk
        have HDEC := Lib.hid hdec
        clear hdec
        go_wp2_with fail
        refine (over_any B _ _ _ _ _ _ _ HDEC.out).mono ?_
        rintro e w4 ⟨rfl, nd, rfl⟩
        go_wp2_with fail
        refine (do_any B B (B + 1) s q o x y z hinv _ (HB.out.drewN nd) (HXB.out.drewN nd) ⟨Nat.le_refl _, by omega⟩).mono ?_
        rintro e w5 ⟨s1, q1, o1, rfl, hinv1, hoo, hk5, hx5, hm5⟩
        have hb5 := (below_drewN HBEL.out nd).trans hm5
        clear d0 d1 d2 hm5
        obtain ⟨i1, i2, i3⟩ := hinv1
        have HB5 := Lib.hid hb5
        clear hb5
        have HX5 := Lib.hid hx5
        clear hx5
        clear hoo hinv
        have x0 : w5.cell? ⟨B + 1, 0, none⟩ = some (.int .i64 s1) := HX5.out.cell 0
        have x1 : w5.cell? ⟨B + 1, 1, none⟩ = some (.int .i64 q1) := HX5.out.cell 1
        have x2 : w5.cell? ⟨B + 1, 2, none⟩ = some (.int .i64 o1) := HX5.out.cell 2
        have gs : s1 < 0 ∨ 0 ≤ s1 := by omega
        have gq : q1 < 0 ∨ 0 ≤ q1 := by omega
        have gid : id ≤ s1 ∨ s1 < id := by omega
        have go1 : o1 < 0 ∨ 0 ≤ o1 := by omega
        rcases gs with gs | gs <;> rcases gq with gq | gq <;> rcases go1 with go1 | go1
        · have hk6 : Blk w5 B 93 (D.cells ⟨false, false, false, 0, 0, 0⟩) := by
            rw [← conc_of s1 q1 o1 false false false 0 0 0 (.inr ⟨rfl, by omega, rfl⟩) (.inr ⟨rfl, by omega, rfl⟩) (.inr ⟨rfl, by omega, rfl⟩)]; exact hk5
          have es1 : decide (0 ≤ s1) = false := by simp; omega
          have fs1 : decide (s1 < 0) = true := by simp; omega
          have eq1 : decide (0 ≤ q1) = false := by simp; omega
          have fq1 : decide (q1 < 0) = true := by simp; omega
          have eo1 : decide (0 ≤ o1) = false := by simp; omega
          have fo1 : decide (o1 < 0) = true := by simp; omega
          have HK5 := Lib.hid hk5
          clear hk5
          have HK6 := Lib.hid hk6
          clear hk6
          go_wp2_with fail
          refine (over_any B _ _ _ _ _ _ _ HK6.out).mono ?_
          rintro e w6 ⟨rfl, n6, rfl⟩
          go_wp2_with fail
          refine (sent_any B _ _ _ _ _ _ _ (HK6.out.drewN n6)).mono ?_
          rintro e w7 ⟨rfl, n7, rfl⟩
          go_wp2_with fail
          go_quiet ((first | (go_at_call 44; exact quiet_add_left (mayopen_any B _ _ _ _ _ _ _ rfl _ (HK6.out.drewN _))) | (go_at_call 45; exact quiet_add_left (takes_any B _ _ _ _ _ _ _ _ rfl _ (HK6.out.drewN _))) | (go_at_call 50; exact quiet_add_left (refused_any B _ _ _ _ _ _ _ _ rfl _ (HK6.out.drewN _)))))
          go_wp2_with fail
          go_roundw
          case rel => exact ⟨k + 1, by omega, by omega, by go_num, s1, q1, o1, ⟨i1, i2, i3⟩, HK5.out.drewN _, HX5.out.drewN _, below_drewN HB5.out _⟩
          case measure => simp [intOf]; omega
        · have hk6 : Blk w5 B 93 (D.cells ⟨false, false, true, 0, 0, o1⟩) := by
            rw [← conc_of s1 q1 o1 false false true 0 0 o1 (.inr ⟨rfl, by omega, rfl⟩) (.inr ⟨rfl, by omega, rfl⟩) (.inl ⟨rfl, by omega, rfl⟩)]; exact hk5
          have es1 : decide (0 ≤ s1) = false := by simp; omega
          have fs1 : decide (s1 < 0) = true := by simp; omega
          have eq1 : decide (0 ≤ q1) = false := by simp; omega
          have fq1 : decide (q1 < 0) = true := by simp; omega
          have eo1 : decide (0 ≤ o1) = true := by simp; omega
          have fo1 : decide (o1 < 0) = false := by simp; omega
          have HK5 := Lib.hid hk5
          clear hk5
          have HK6 := Lib.hid hk6
          clear hk6
          go_wp2_with fail
          refine (over_any B _ _ _ _ _ _ _ HK6.out).mono ?_
          rintro e w6 ⟨rfl, n6, rfl⟩
          go_wp2_with fail
          refine (sent_any B _ _ _ _ _ _ _ (HK6.out.drewN n6)).mono ?_
          rintro e w7 ⟨rfl, n7, rfl⟩
          go_wp2_with fail
          go_quiet ((first | (go_at_call 44; exact quiet_add_left (mayopen_any B _ _ _ _ _ _ _ rfl _ (HK6.out.drewN _))) | (go_at_call 45; exact quiet_add_left (takes_any B _ _ _ _ _ _ _ _ rfl _ (HK6.out.drewN _))) | (go_at_call 50; exact quiet_add_left (refused_any B _ _ _ _ _ _ _ _ rfl _ (HK6.out.drewN _)))))
          go_wp2_with fail
          go_roundw
          case rel => exact ⟨k + 1, by omega, by omega, by go_num, s1, q1, o1, ⟨i1, i2, i3⟩, HK5.out.drewN _, HX5.out.drewN _, below_drewN HB5.out _⟩
          case measure => simp [intOf]; omega
        · have hk6 : Blk w5 B 93 (D.cells ⟨false, true, false, 0, q1, 0⟩) := by
            rw [← conc_of s1 q1 o1 false true false 0 q1 0 (.inr ⟨rfl, by omega, rfl⟩) (.inl ⟨rfl, by omega, rfl⟩) (.inr ⟨rfl, by omega, rfl⟩)]; exact hk5
          have es1 : decide (0 ≤ s1) = false := by simp; omega
          have fs1 : decide (s1 < 0) = true := by simp; omega
          have eq1 : decide (0 ≤ q1) = true := by simp; omega
          have fq1 : decide (q1 < 0) = false := by simp; omega
          have eo1 : decide (0 ≤ o1) = false := by simp; omega
          have fo1 : decide (o1 < 0) = true := by simp; omega
          have HK5 := Lib.hid hk5
          clear hk5
          have HK6 := Lib.hid hk6
          clear hk6
          go_wp2_with fail
          refine (over_any B _ _ _ _ _ _ _ HK6.out).mono ?_
          rintro e w6 ⟨rfl, n6, rfl⟩
          go_wp2_with fail
          refine (sent_any B _ _ _ _ _ _ _ (HK6.out.drewN n6)).mono ?_
          rintro e w7 ⟨rfl, n7, rfl⟩
          go_wp2_with fail
          go_quiet ((first | (go_at_call 44; exact quiet_add_left (mayopen_any B _ _ _ _ _ _ _ rfl _ (HK6.out.drewN _))) | (go_at_call 45; exact quiet_add_left (takes_any B _ _ _ _ _ _ _ _ rfl _ (HK6.out.drewN _))) | (go_at_call 50; exact quiet_add_left (refused_any B _ _ _ _ _ _ _ _ rfl _ (HK6.out.drewN _)))))
          go_wp2_with fail
          go_roundw
          case rel => exact ⟨k + 1, by omega, by omega, by go_num, s1, q1, o1, ⟨i1, i2, i3⟩, HK5.out.drewN _, HX5.out.drewN _, below_drewN HB5.out _⟩
          case measure => simp [intOf]; omega
        · have hk6 : Blk w5 B 93 (D.cells ⟨false, true, true, 0, q1, o1⟩) := by
            rw [← conc_of s1 q1 o1 false true true 0 q1 o1 (.inr ⟨rfl, by omega, rfl⟩) (.inl ⟨rfl, by omega, rfl⟩) (.inl ⟨rfl, by omega, rfl⟩)]; exact hk5
          have es1 : decide (0 ≤ s1) = false := by simp; omega
          have fs1 : decide (s1 < 0) = true := by simp; omega
          have eq1 : decide (0 ≤ q1) = true := by simp; omega
          have fq1 : decide (q1 < 0) = false := by simp; omega
          have eo1 : decide (0 ≤ o1) = true := by simp; omega
          have fo1 : decide (o1 < 0) = false := by simp; omega
          have HK5 := Lib.hid hk5
          clear hk5
          have HK6 := Lib.hid hk6
          clear hk6
          go_wp2_with fail
          refine (over_any B _ _ _ _ _ _ _ HK6.out).mono ?_
          rintro e w6 ⟨rfl, n6, rfl⟩
          go_wp2_with fail
          refine (sent_any B _ _ _ _ _ _ _ (HK6.out.drewN n6)).mono ?_
          rintro e w7 ⟨rfl, n7, rfl⟩
          go_wp2_with fail
          go_quiet ((first | (go_at_call 44; exact quiet_add_left (mayopen_any B _ _ _ _ _ _ _ rfl _ (HK6.out.drewN _))) | (go_at_call 45; exact quiet_add_left (takes_any B _ _ _ _ _ _ _ _ rfl _ (HK6.out.drewN _))) | (go_at_call 50; exact quiet_add_left (refused_any B _ _ _ _ _ _ _ _ rfl _ (HK6.out.drewN _)))))
          go_wp2_with fail
          go_roundw
          case rel => exact ⟨k + 1, by omega, by omega, by go_num, s1, q1, o1, ⟨i1, i2, i3⟩, HK5.out.drewN _, HX5.out.drewN _, below_drewN HB5.out _⟩
          case measure => simp [intOf]; omega
        · have hk6 : Blk w5 B 93 (D.cells ⟨true, false, false, s1, 0, 0⟩) := by
            rw [← conc_of s1 q1 o1 true false false s1 0 0 (.inl ⟨rfl, by omega, rfl⟩) (.inr ⟨rfl, by omega, rfl⟩) (.inr ⟨rfl, by omega, rfl⟩)]; exact hk5
          have es1 : decide (0 ≤ s1) = true := by simp; omega
          have fs1 : decide (s1 < 0) = false := by simp; omega
          have eq1 : decide (0 ≤ q1) = false := by simp; omega
          have fq1 : decide (q1 < 0) = true := by simp; omega
          have eo1 : decide (0 ≤ o1) = false := by simp; omega
          have fo1 : decide (o1 < 0) = true := by simp; omega
          have HK5 := Lib.hid hk5
          clear hk5
          have HK6 := Lib.hid hk6
          clear hk6
          go_wp2_with fail
          refine (over_any B _ _ _ _ _ _ _ HK6.out).mono ?_
          rintro e w6 ⟨rfl, n6, rfl⟩
          go_wp2_with fail
          refine (sent_any B _ _ _ _ _ _ _ (HK6.out.drewN n6)).mono ?_
          rintro e w7 ⟨rfl, n7, rfl⟩
          go_wp2_with fail
          go_quiet ((first | (go_at_call 44; exact quiet_add_left (mayopen_any B _ _ _ _ _ _ _ rfl _ (HK6.out.drewN _))) | (go_at_call 45; exact quiet_add_left (takes_any B _ _ _ _ _ _ _ _ rfl _ (HK6.out.drewN _))) | (go_at_call 50; exact quiet_add_left (refused_any B _ _ _ _ _ _ _ _ rfl _ (HK6.out.drewN _)))))
          go_wp2_with fail
          go_roundw
          case rel => exact ⟨k + 1, by omega, by omega, by go_num, s1, q1, o1, ⟨i1, i2, i3⟩, HK5.out.drewN _, HX5.out.drewN _, below_drewN HB5.out _⟩
          case measure => simp [intOf]; omega
        · have hk6 : Blk w5 B 93 (D.cells ⟨true, false, true, s1, 0, o1⟩) := by
            rw [← conc_of s1 q1 o1 true false true s1 0 o1 (.inl ⟨rfl, by omega, rfl⟩) (.inr ⟨rfl, by omega, rfl⟩) (.inl ⟨rfl, by omega, rfl⟩)]; exact hk5
          have es1 : decide (0 ≤ s1) = true := by simp; omega
          have fs1 : decide (s1 < 0) = false := by simp; omega
          have eq1 : decide (0 ≤ q1) = false := by simp; omega
          have fq1 : decide (q1 < 0) = true := by simp; omega
          have eo1 : decide (0 ≤ o1) = true := by simp; omega
          have fo1 : decide (o1 < 0) = false := by simp; omega
          have HK5 := Lib.hid hk5
          clear hk5
          have HK6 := Lib.hid hk6
          clear hk6
          go_wp2_with fail
          refine (over_any B _ _ _ _ _ _ _ HK6.out).mono ?_
          rintro e w6 ⟨rfl, n6, rfl⟩
          go_wp2_with fail
          refine (sent_any B _ _ _ _ _ _ _ (HK6.out.drewN n6)).mono ?_
          rintro e w7 ⟨rfl, n7, rfl⟩
          go_wp2_with fail
          go_quiet ((first | (go_at_call 44; exact quiet_add_left (mayopen_any B _ _ _ _ _ _ _ rfl _ (HK6.out.drewN _))) | (go_at_call 45; exact quiet_add_left (takes_any B _ _ _ _ _ _ _ _ rfl _ (HK6.out.drewN _))) | (go_at_call 50; exact quiet_add_left (refused_any B _ _ _ _ _ _ _ _ rfl _ (HK6.out.drewN _)))))
          go_wp2_with fail
          go_roundw
          case rel => exact ⟨k + 1, by omega, by omega, by go_num, s1, q1, o1, ⟨i1, i2, i3⟩, HK5.out.drewN _, HX5.out.drewN _, below_drewN HB5.out _⟩
          case measure => simp [intOf]; omega
        · have hk6 : Blk w5 B 93 (D.cells ⟨true, true, false, s1, q1, 0⟩) := by
            rw [← conc_of s1 q1 o1 true true false s1 q1 0 (.inl ⟨rfl, by omega, rfl⟩) (.inl ⟨rfl, by omega, rfl⟩) (.inr ⟨rfl, by omega, rfl⟩)]; exact hk5
          have es1 : decide (0 ≤ s1) = true := by simp; omega
          have fs1 : decide (s1 < 0) = false := by simp; omega
          have eq1 : decide (0 ≤ q1) = true := by simp; omega
          have fq1 : decide (q1 < 0) = false := by simp; omega
          have eo1 : decide (0 ≤ o1) = false := by simp; omega
          have fo1 : decide (o1 < 0) = true := by simp; omega
          have HK5 := Lib.hid hk5
          clear hk5
          have HK6 := Lib.hid hk6
          clear hk6
          go_wp2_with fail
          refine (over_any B _ _ _ _ _ _ _ HK6.out).mono ?_
          rintro e w6 ⟨rfl, n6, rfl⟩
          go_wp2_with fail
          refine (sent_any B _ _ _ _ _ _ _ (HK6.out.drewN n6)).mono ?_
          rintro e w7 ⟨rfl, n7, rfl⟩
          go_wp2_with fail
          go_quiet ((first | (go_at_call 44; exact quiet_add_left (mayopen_any B _ _ _ _ _ _ _ rfl _ (HK6.out.drewN _))) | (go_at_call 45; exact quiet_add_left (takes_any B _ _ _ _ _ _ _ _ rfl _ (HK6.out.drewN _))) | (go_at_call 50; exact quiet_add_left (refused_any B _ _ _ _ _ _ _ _ rfl _ (HK6.out.drewN _)))))
          go_wp2_with fail
          go_roundw
          case rel => exact ⟨k + 1, by omega, by omega, by go_num, s1, q1, o1, ⟨i1, i2, i3⟩, HK5.out.drewN _, HX5.out.drewN _, below_drewN HB5.out _⟩
          case measure => simp [intOf]; omega
        · have hk6 : Blk w5 B 93 (D.cells ⟨true, true, true, s1, q1, o1⟩) := by
            rw [← conc_of s1 q1 o1 true true true s1 q1 o1 (.inl ⟨rfl, by omega, rfl⟩) (.inl ⟨rfl, by omega, rfl⟩) (.inl ⟨rfl, by omega, rfl⟩)]; exact hk5
          have es1 : decide (0 ≤ s1) = true := by simp; omega
          have fs1 : decide (s1 < 0) = false := by simp; omega
          have eq1 : decide (0 ≤ q1) = true := by simp; omega
          have fq1 : decide (q1 < 0) = false := by simp; omega
          have eo1 : decide (0 ≤ o1) = true := by simp; omega
          have fo1 : decide (o1 < 0) = false := by simp; omega
          have HK5 := Lib.hid hk5
          clear hk5
          have HK6 := Lib.hid hk6
          clear hk6
          go_wp2_with fail
          refine (over_any B _ _ _ _ _ _ _ HK6.out).mono ?_
          rintro e w6 ⟨rfl, n6, rfl⟩
          go_wp2_with fail
          refine (sent_any B _ _ _ _ _ _ _ (HK6.out.drewN n6)).mono ?_
          rintro e w7 ⟨rfl, n7, rfl⟩
          go_wp2_with fail
          go_quiet ((first | (go_at_call 44; exact quiet_add_left (mayopen_any B _ _ _ _ _ _ _ rfl _ (HK6.out.drewN _))) | (go_at_call 45; exact quiet_add_left (takes_any B _ _ _ _ _ _ _ _ rfl _ (HK6.out.drewN _))) | (go_at_call 50; exact quiet_add_left (refused_any B _ _ _ _ _ _ _ _ rfl _ (HK6.out.drewN _)))))
          go_wp2_with fail
          go_roundw
          case rel => exact ⟨k + 1, by omega, by omega, by go_num, s1, q1, o1, ⟨i1, i2, i3⟩, HK5.out.drewN _, HX5.out.drewN _, below_drewN HB5.out _⟩
          case measure => simp [intOf]; omega
      · have hdec : Blk wr B 93 (D.cells ⟨decide (0 ≤ s), decide (0 ≤ q), true, if 0 ≤ s then s else 0, if 0 ≤ q then q else 0, o⟩) := by
          have e : conc s q o = ⟨decide (0 ≤ s), decide (0 ≤ q), true, if 0 ≤ s then s else 0, if 0 ≤ q then q else 0, o⟩ := by unfold conc; simp; omega
          rw [← e]; exact hblk
        have HB := Lib.hid hblk
        clear hblk
        have HDEC := Lib.hid hdec
        clear hdec
        go_wp2_with fail
        refine (over_any B _ _ _ _ _ _ _ HDEC.out).mono ?_
        rintro e w4 ⟨rfl, nd, rfl⟩
        go_wp2_with fail
        refine (do_any B B (B + 1) s q o x y z hinv _ (HB.out.drewN nd) (HXB.out.drewN nd) ⟨Nat.le_refl _, by omega⟩).mono ?_
        rintro e w5 ⟨s1, q1, o1, rfl, hinv1, hoo, hk5, hx5, hm5⟩
        have hb5 := (below_drewN HBEL.out nd).trans hm5
        clear d0 d1 d2 hm5
        obtain ⟨i1, i2, i3⟩ := hinv1
        have HB5 := Lib.hid hb5
        clear hb5
        have HX5 := Lib.hid hx5
        clear hx5
        obtain rfl : o1 = o := hoo ho
        clear hoo hinv
        have x0 : w5.cell? ⟨B + 1, 0, none⟩ = some (.int .i64 s1) := HX5.out.cell 0
        have x1 : w5.cell? ⟨B + 1, 1, none⟩ = some (.int .i64 q1) := HX5.out.cell 1
        have x2 : w5.cell? ⟨B + 1, 2, none⟩ = some (.int .i64 o1) := HX5.out.cell 2
        have gs : s1 < 0 ∨ 0 ≤ s1 := by omega
        have gq : q1 < 0 ∨ 0 ≤ q1 := by omega
        have gid : id ≤ s1 ∨ s1 < id := by omega
        rcases gs with gs | gs <;> rcases gq with gq | gq
        · have hk6 : Blk w5 B 93 (D.cells ⟨false, false, true, 0, 0, o1⟩) := by
            rw [← conc_of s1 q1 o1 false false true 0 0 o1 (.inr ⟨rfl, by omega, rfl⟩) (.inr ⟨rfl, by omega, rfl⟩) (.inl ⟨rfl, by omega, rfl⟩)]; exact hk5
          have es1 : decide (0 ≤ s1) = false := by simp; omega
          have fs1 : decide (s1 < 0) = true := by simp; omega
          have eq1 : decide (0 ≤ q1) = false := by simp; omega
          have fq1 : decide (q1 < 0) = true := by simp; omega
          have eo1 : decide (0 ≤ o1) = true := by simp; omega
          have fo1 : decide (o1 < 0) = false := by simp; omega
          have HK5 := Lib.hid hk5
          clear hk5
          have HK6 := Lib.hid hk6
          clear hk6
          go_wp2_with fail
          refine (over_any B _ _ _ _ _ _ _ HK6.out).mono ?_
          rintro e w6 ⟨rfl, n6, rfl⟩
          go_wp2_with fail
          refine (sent_any B _ _ _ _ _ _ _ (HK6.out.drewN n6)).mono ?_
          rintro e w7 ⟨rfl, n7, rfl⟩
          go_wp2_with fail
          go_quiet ((first | (go_at_call 44; exact quiet_add_left (mayopen_any B _ _ _ _ _ _ _ rfl _ (HK6.out.drewN _))) | (go_at_call 45; exact quiet_add_left (takes_any B _ _ _ _ _ _ _ _ rfl _ (HK6.out.drewN _))) | (go_at_call 50; exact quiet_add_left (refused_any B _ _ _ _ _ _ _ _ rfl _ (HK6.out.drewN _)))))
          go_wp2_with fail
          go_roundw
          case rel => exact ⟨k + 1, by omega, by omega, by go_num, s1, q1, o1, ⟨i1, i2, i3⟩, HK5.out.drewN _, HX5.out.drewN _, below_drewN HB5.out _⟩
          case measure => simp [intOf]; omega
        · have hk6 : Blk w5 B 93 (D.cells ⟨false, true, true, 0, q1, o1⟩) := by
            rw [← conc_of s1 q1 o1 false true true 0 q1 o1 (.inr ⟨rfl, by omega, rfl⟩) (.inl ⟨rfl, by omega, rfl⟩) (.inl ⟨rfl, by omega, rfl⟩)]; exact hk5
          have es1 : decide (0 ≤ s1) = false := by simp; omega
          have fs1 : decide (s1 < 0) = true := by simp; omega
          have eq1 : decide (0 ≤ q1) = true := by simp; omega
          have fq1 : decide (q1 < 0) = false := by simp; omega
          have eo1 : decide (0 ≤ o1) = true := by simp; omega
          have fo1 : decide (o1 < 0) = false := by simp; omega
          have HK5 := Lib.hid hk5
          clear hk5
          have HK6 := Lib.hid hk6
          clear hk6
          go_wp2_with fail
          refine (over_any B _ _ _ _ _ _ _ HK6.out).mono ?_
          rintro e w6 ⟨rfl, n6, rfl⟩
          go_wp2_with fail
          refine (sent_any B _ _ _ _ _ _ _ (HK6.out.drewN n6)).mono ?_
          rintro e w7 ⟨rfl, n7, rfl⟩
          go_wp2_with fail
          go_quiet ((first | (go_at_call 44; exact quiet_add_left (mayopen_any B _ _ _ _ _ _ _ rfl _ (HK6.out.drewN _))) | (go_at_call 45; exact quiet_add_left (takes_any B _ _ _ _ _ _ _ _ rfl _ (HK6.out.drewN _))) | (go_at_call 50; exact quiet_add_left (refused_any B _ _ _ _ _ _ _ _ rfl _ (HK6.out.drewN _)))))
          go_wp2_with fail
          go_roundw
          case rel => exact ⟨k + 1, by omega, by omega, by go_num, s1, q1, o1, ⟨i1, i2, i3⟩, HK5.out.drewN _, HX5.out.drewN _, below_drewN HB5.out _⟩
          case measure => simp [intOf]; omega
        · have hk6 : Blk w5 B 93 (D.cells ⟨true, false, true, s1, 0, o1⟩) := by
            rw [← conc_of s1 q1 o1 true false true s1 0 o1 (.inl ⟨rfl, by omega, rfl⟩) (.inr ⟨rfl, by omega, rfl⟩) (.inl ⟨rfl, by omega, rfl⟩)]; exact hk5
          have es1 : decide (0 ≤ s1) = true := by simp; omega
          have fs1 : decide (s1 < 0) = false := by simp; omega
          have eq1 : decide (0 ≤ q1) = false := by simp; omega
          have fq1 : decide (q1 < 0) = true := by simp; omega
          have eo1 : decide (0 ≤ o1) = true := by simp; omega
          have fo1 : decide (o1 < 0) = false := by simp; omega
          have HK5 := Lib.hid hk5
          clear hk5
          have HK6 := Lib.hid hk6
          clear hk6
          go_wp2_with fail
          refine (over_any B _ _ _ _ _ _ _ HK6.out).mono ?_
          rintro e w6 ⟨rfl, n6, rfl⟩
          go_wp2_with fail
          refine (sent_any B _ _ _ _ _ _ _ (HK6.out.drewN n6)).mono ?_
          rintro e w7 ⟨rfl, n7, rfl⟩
          go_wp2_with fail
          go_quiet ((first | (go_at_call 44; exact quiet_add_left (mayopen_any B _ _ _ _ _ _ _ rfl _ (HK6.out.drewN _))) | (go_at_call 45; exact quiet_add_left (takes_any B _ _ _ _ _ _ _ _ rfl _ (HK6.out.drewN _))) | (go_at_call 50; exact quiet_add_left (refused_any B _ _ _ _ _ _ _ _ rfl _ (HK6.out.drewN _)))))
          go_wp2_with fail
          go_roundw
          case rel => exact ⟨k + 1, by omega, by omega, by go_num, s1, q1, o1, ⟨i1, i2, i3⟩, HK5.out.drewN _, HX5.out.drewN _, below_drewN HB5.out _⟩
          case measure => simp [intOf]; omega
        · have hk6 : Blk w5 B 93 (D.cells ⟨true, true, true, s1, q1, o1⟩) := by
            rw [← conc_of s1 q1 o1 true true true s1 q1 o1 (.inl ⟨rfl, by omega, rfl⟩) (.inl ⟨rfl, by omega, rfl⟩) (.inl ⟨rfl, by omega, rfl⟩)]; exact hk5
          have es1 : decide (0 ≤ s1) = true := by simp; omega
          have fs1 : decide (s1 < 0) = false := by simp; omega
          have eq1 : decide (0 ≤ q1) = true := by simp; omega
          have fq1 : decide (q1 < 0) = false := by simp; omega
          have eo1 : decide (0 ≤ o1) = true := by simp; omega
          have fo1 : decide (o1 < 0) = false := by simp; omega
          have HK5 := Lib.hid hk5
          clear hk5
          have HK6 := Lib.hid hk6
          clear hk6
          go_wp2_with fail
          refine (over_any B _ _ _ _ _ _ _ HK6.out).mono ?_
          rintro e w6 ⟨rfl, n6, rfl⟩
          go_wp2_with fail
          refine (sent_any B _ _ _ _ _ _ _ (HK6.out.drewN n6)).mono ?_
          rintro e w7 ⟨rfl, n7, rfl⟩
          go_wp2_with fail
          go_quiet ((first | (go_at_call 44; exact quiet_add_left (mayopen_any B _ _ _ _ _ _ _ rfl _ (HK6.out.drewN _))) | (go_at_call 45; exact quiet_add_left (takes_any B _ _ _ _ _ _ _ _ rfl _ (HK6.out.drewN _))) | (go_at_call 50; exact quiet_add_left (refused_any B _ _ _ _ _ _ _ _ rfl _ (HK6.out.drewN _)))))
          go_wp2_with fail
          go_roundw
          case rel => exact ⟨k + 1, by omega, by omega, by go_num, s1, q1, o1, ⟨i1, i2, i3⟩, HK5.out.drewN _, HX5.out.drewN _, below_drewN HB5.out _⟩
          case measure => simp [intOf]; omega
    · by_cases hlt : k < n
      · have h60 : ¬ k < 60 := by omega
        clear hout hblk hxb
        go_wp2
        go_ret
        exact ⟨rfl, HG.out ▸ hbel⟩
      · clear hout hblk hxb
        go_wp2
        go_ret
        exact ⟨rfl, HG.out ▸ hbel⟩

end Go.Proofs.Ytmjkfiadbllkfaa.DrainDoes
