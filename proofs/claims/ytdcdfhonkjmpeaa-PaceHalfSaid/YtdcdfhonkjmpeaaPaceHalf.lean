import Derived.Test.YtdcdfhonkjmpeaaPaceLaws
namespace Go.Proofs.Ytdcdfhonkjmpeaa.PaceHalf
open Go.ChangeShapes Go.WideShapes Go.ChangeAt Go.RowKit Go.Deep
set_option linter.unusedVariables false
open Pace PaceLaws

/-- What a round starts from. -/
def Rel (B : Nat) (w : World) (k : Nat) (wr : World) : Prop :=
  ∃ c m r t u : Int, Inv k c m r t u ∧ Blk wr B 93 (P.cells ⟨c, m, r, t, u⟩) ∧ Blk wr (B + 1) 55 (P.cells ⟨c, m, r, t, u⟩) ∧ Below B w wr

theorem Inv.start (c : Int) (h0 : 0 ≤ c) (h1 : c ≤ 2147483647) : Inv 0 c c c 0 0 := ⟨h0, Int.le_refl _, h1, by omega, by omega, by omega, by omega, by omega, by omega, by omega⟩

set_option maxRecDepth 100000 in
set_option maxHeartbeats 6400000 in
theorem walk (w : World) (nn : Int) (hnn : (Lit.int .u32 nn).wf = true) (A : Option Addr) (n c : Nat) (hn : n ≤ c) (hc : c ≤ maxLen) (he : Elems w A n [IsInt .i64, IsInt .i64]) :
    Calls Try.prog 7 #[.int .u32 nn, .slice A n c] w fun e w' => e = .returned (.bool true) ∧ Below w.heap.size w w' := by
  clear hc
  have HE := Lib.hid he
  clear he
  have hbn := bounds_u32 hnn
  obtain ⟨c0, hcc⟩ : ∃ c0, nn % 2147483648 = c0 := ⟨_, rfl⟩
  have hc0 : 0 ≤ c0 := by omega
  have hc1 : c0 ≤ 2147483647 := by omega
  obtain ⟨hn0, hn1⟩ := hbn
  clear hnn
  obtain ⟨B, hB⟩ : ∃ g, w.heap.size = g := ⟨_, rfl⟩
  have hb0 : Below B w w := Below.refl _ _
  have hs0 : B ≤ w.heap.size := by omega
  have HG := Lib.hid hB
  clear hB
  go_enter Try.func7, Try.ntmps7
  go_wp2_with fail
  refine (new_any c0 _ hc0 hc1).mono ?_
  rintro e w1 ⟨rfl, hw1⟩
  rw [HG.out]
  have hk1 : Blk w1 B 93 (P.cells ⟨c0, c0, c0, 0, 0⟩) := by rw [hw1, ← HG.out]; exact Blk.new _ _ _
  have hb1 : Below B w w1 := by rw [hw1]; exact hb0.alloc hs0 _
  have hz1 : w1.heap.size = B + 1 := by rw [hw1, ← HG.out]; simp
  clear hw1
  go_wp2_with fail
  refine (refnew_any c0 _).mono ?_
  rintro e w2 ⟨rfl, hw2⟩
  rw [hz1]
  have hx2 : Blk w2 (B + 1) 55 (P.cells ⟨c0, c0, c0, 0, 0⟩) := by rw [hw2, ← hz1]; exact Blk.new _ _ _
  have hk2 : Blk w2 B 93 (P.cells ⟨c0, c0, c0, 0, 0⟩) := by rw [hw2]; exact hk1.alloc _
  have hb2 : Below B w w2 := by rw [hw2]; exact hb1.alloc (by omega) _
  have hs2 : B ≤ w2.heap.size := Nat.le_trans hs0 hb2.size
  clear hw2 hz1 hk1 hb1
  go_wp2_with fail
  refine (awake_any _).mono ?_
  rintro e w3 ⟨rfl, hm3⟩
  have hk3 := hk2.below hm3 hk2.lt
  have hx3 := hx2.below hm3 hx2.lt
  have hb3 := hb2.trans (hm3.mono hs2)
  clear hk2 hx2 hb2 hs2 hm3
  go_wp2_with fail
  go_loopw [9] (fun i wr => ∃ k : Nat, k ≤ n ∧ k ≤ 100 ∧ i = .int .i64 k ∧ Rel B w k wr) (fun i _ => n - (intOf i).toNat)
  case atStart => exact ⟨0, Nat.zero_le _, Nat.zero_le _, rfl, c0, c0, c0, 0, 0, Inv.start c0 hc0 hc1, hk3, hx3, hb3⟩
  case round =>
    clear hb0 hk3 hx3 hb3 hs0
    obtain ⟨k, hk, hk100, rfl, c, m, r, t, u, hinv, hblk, hxb, hbel⟩ := hrel
    have hin : k < n ∧ k < 100 ∨ ¬ (k < n ∧ k < 100) := by omega
    rcases hin with ⟨hlt, h100⟩ | hout
    · obtain ⟨b, off, rfl, hbw, hcell⟩ := HE.out (by omega)
      obtain ⟨v0, c0', x, rfl, wx⟩ := hcell k hlt 0 _ rfl
      obtain ⟨v1, c1', y, rfl, wy⟩ := hcell k hlt 1 _ rfl
      clear hcell wx wy
      rw [← hbel.cell (p := ⟨b, _, none⟩) (by rw [← HG.out]; exact hbw)] at c0' c1'
      have d0 : wr.cell? ⟨b, off + k * 2, none⟩ = some (.int .i64 x) := c0'
      have d1 : wr.cell? ⟨b, off + k * 2 + 1, none⟩ = some (.int .i64 y) := c1'
      clear c0' c1' hbw
      have HBEL := Lib.hid hbel
      clear hbel
      have HXB := Lib.hid hxb
      clear hxb
      have HB := Lib.hid hblk
      clear hblk
      have HINV := Lib.hid hinv
      clear hinv
      go_wp2_with fail
      refine (do_any B B (B + 1) k c m r t u x y (by omega) HINV.out _ HB.out HXB.out ⟨Nat.le_refl _, by omega⟩).mono ?_
      rintro e w5 ⟨c1, m1, r1, t1, u1, rfl, hinv1, hk5, hx5, hm5⟩
      have hb5 := HBEL.out.trans hm5
      clear d0 d1 hm5
      have HB5 := Lib.hid hb5
      clear hb5
      have HX5 := Lib.hid hx5
      clear hx5
      have HK5 := Lib.hid hk5
      clear hk5
      have HI1 := Lib.hid hinv1
      clear hinv1
      go_wp2_with fail
      go_roundw
      case rel => exact ⟨k + 1, by omega, by omega, by go_num, c1, m1, r1, t1, u1, HI1.out, HK5.out, HX5.out, HB5.out⟩
      case measure => simp [intOf]; omega
    · have hsz : B ≤ wr.heap.size := by rw [← HG.out]; exact hbel.size
      by_cases hlt : k < n
      · have h100 : ¬ k < 100 := by omega
        clear hout
        have hab : ∃ q, q = (c + 1) / 2 := ⟨_, rfl⟩
        obtain ⟨hr, ht, hu⟩ := hinv.small (by omega)
        obtain ⟨i1, i2, i3, i4, i5, i6, i7, i8, i9, i10⟩ := hinv
        have hde := due_eq c r t
        have hdd : c - (r - t) ≤ 0 ∨ (c + 1) / 2 ≤ c - (r - t) ∧ Pace.due c r t = c - (r - t) ∨ 0 < c - (r - t) ∧ c - (r - t) < (c + 1) / 2 ∧ Pace.due c r t = 0 := by
          unfold Pace.due
          rcases (show c - (r - t) ≤ 0 ∨ 0 < c - (r - t) ∧ (c + 1) / 2 ≤ c - (r - t) ∨ 0 < c - (r - t) ∧ c - (r - t) < (c + 1) / 2 by omega) with a | ⟨a, b⟩ | ⟨a, b⟩
          · exact .inl a
          · exact .inr (.inl ⟨b, if_pos ⟨a, b⟩⟩)
          · exact .inr (.inr ⟨a, b, if_neg (by omega)⟩)
        obtain ⟨v, hv⟩ : ∃ v, v = Pace.due c r t := ⟨_, rfl⟩
        rw [← hv] at hde hdd
        obtain ⟨q, hq⟩ : ∃ q, q = (c + 1) / 2 := ⟨_, rfl⟩
        have hbnd : 0 ≤ t - u ∧ 0 ≤ q ∧ q ≤ r + v - t ∧ v ≤ 4503599627370496 ∧ 0 ≤ v := by
          obtain ⟨a, b⟩ := hr
          obtain ⟨a', b'⟩ := ht
          omega
        have hsm : Small (r + v) := by
          obtain ⟨a, b⟩ := hr
          obtain ⟨a', b'⟩ := ht
          exact ⟨by omega, by omega⟩
        have hsm2 : Small (t + q) := by
          obtain ⟨a, b⟩ := ht
          exact ⟨by omega, by omega⟩
        have hkq : t + q - t = q := by omega
        obtain ⟨b1, b2, b3, b4, b5⟩ := hbnd
        clear hde hdd hab
        have HV := Lib.hid hv
        clear hv
        have HQ := Lib.hid hq
        clear hq
        have HKQ := Lib.hid hkq
        clear hkq
        have x0 : wr.cell? ⟨B + 1, 0, none⟩ = some (.int .i64 c) := hxb.cell 0
        have hxl := hxb.lt
        have HB := Lib.hid hblk
        clear hblk
        have HXB := Lib.hid hxb
        clear hxb
        have HBEL := Lib.hid hbel
        clear hbel
        go_wp2_with fail
        refine (kept_any B c m r t u ht hu _ HB.out).mono ?_
        rintro e w4 ⟨rfl, n4, rfl⟩
        go_wp2_with fail
        refine (use_ok B c m r t u (t - u) b1 (Int.le_refl _) ht hu _ (HB.out.drewN n4)).mono ?_
        rintro e w5 ⟨rfl, hk5, hg5⟩
        rw [show u + (t - u) = t by omega] at hk5
        have hb5 := below_only (below_drewN HBEL.out n4) hg5 (Nat.le_refl _) hsz
        have hs5 : B ≤ w5.heap.size := Nat.le_trans hsz hg5.size
        have y0 : w5.cell? ⟨B + 1, 0, none⟩ = some (.int .i64 c) := by rw [only_cell hg5 (p := ⟨B + 1, 0, none⟩) hxl (by simp)]; exact x0
        have hxl5 : B + 1 < w5.heap.size := Nat.lt_of_lt_of_le hxl hg5.size
        clear hg5 x0
        have HK5 := Lib.hid hk5
        clear hk5
        have HB5 := Lib.hid hb5
        clear hb5
        go_wp2_with fail
        refine (grant_any B c m r t t v (r + v) HV.out rfl i1 (by omega) hr ht _ HK5.out).mono ?_
        rintro e w6 ⟨rfl, hk6, hg6⟩
        have hb6 := below_only HB5.out hg6 (Nat.le_refl _) hs5
        have hs6 : B ≤ w6.heap.size := Nat.le_trans hs5 hg6.size
        have z0 : w6.cell? ⟨B + 1, 0, none⟩ = some (.int .i64 c) := by rw [only_cell hg6 (p := ⟨B + 1, 0, none⟩) hxl5 (by simp)]; exact y0
        clear hg6 y0
        have HK6 := Lib.hid hk6
        clear hk6
        have HB6 := Lib.hid hb6
        clear hb6
        have hcc2 : 0 ≤ c + 1 := by omega
        go_wp2_with fail
        rw [← HQ.out]
        refine (got_ok B c m (r + v) t t q (t + q) rfl b2 (.inr b3) hsm ht _ HK6.out).mono ?_
        rintro e w7 ⟨rfl, hk7, hg7⟩
        have hb7 := below_only HB6.out hg7 (Nat.le_refl _) hs6
        clear hg7
        have HK7 := Lib.hid hk7
        clear hk7
        have HB7 := Lib.hid hb7
        clear hb7
        go_wp2_with fail
        refine (kept_any B c m (r + v) (t + q) t hsm2 ht _ HK7.out).mono ?_
        rintro e w8 ⟨rfl, n8, rfl⟩
        rw [HKQ.out]
        go_wp2_with fail
        go_ret
        exact ⟨rfl, HG.out ▸ below_drewN HB7.out n8⟩
      · clear hout
        have hab : ∃ q, q = (c + 1) / 2 := ⟨_, rfl⟩
        obtain ⟨hr, ht, hu⟩ := hinv.small (by omega)
        obtain ⟨i1, i2, i3, i4, i5, i6, i7, i8, i9, i10⟩ := hinv
        have hde := due_eq c r t
        have hdd : c - (r - t) ≤ 0 ∨ (c + 1) / 2 ≤ c - (r - t) ∧ Pace.due c r t = c - (r - t) ∨ 0 < c - (r - t) ∧ c - (r - t) < (c + 1) / 2 ∧ Pace.due c r t = 0 := by
          unfold Pace.due
          rcases (show c - (r - t) ≤ 0 ∨ 0 < c - (r - t) ∧ (c + 1) / 2 ≤ c - (r - t) ∨ 0 < c - (r - t) ∧ c - (r - t) < (c + 1) / 2 by omega) with a | ⟨a, b⟩ | ⟨a, b⟩
          · exact .inl a
          · exact .inr (.inl ⟨b, if_pos ⟨a, b⟩⟩)
          · exact .inr (.inr ⟨a, b, if_neg (by omega)⟩)
        obtain ⟨v, hv⟩ : ∃ v, v = Pace.due c r t := ⟨_, rfl⟩
        rw [← hv] at hde hdd
        obtain ⟨q, hq⟩ : ∃ q, q = (c + 1) / 2 := ⟨_, rfl⟩
        have hbnd : 0 ≤ t - u ∧ 0 ≤ q ∧ q ≤ r + v - t ∧ v ≤ 4503599627370496 ∧ 0 ≤ v := by
          obtain ⟨a, b⟩ := hr
          obtain ⟨a', b'⟩ := ht
          omega
        have hsm : Small (r + v) := by
          obtain ⟨a, b⟩ := hr
          obtain ⟨a', b'⟩ := ht
          exact ⟨by omega, by omega⟩
        have hsm2 : Small (t + q) := by
          obtain ⟨a, b⟩ := ht
          exact ⟨by omega, by omega⟩
        have hkq : t + q - t = q := by omega
        obtain ⟨b1, b2, b3, b4, b5⟩ := hbnd
        clear hde hdd hab
        have HV := Lib.hid hv
        clear hv
        have HQ := Lib.hid hq
        clear hq
        have HKQ := Lib.hid hkq
        clear hkq
        have x0 : wr.cell? ⟨B + 1, 0, none⟩ = some (.int .i64 c) := hxb.cell 0
        have hxl := hxb.lt
        have HB := Lib.hid hblk
        clear hblk
        have HXB := Lib.hid hxb
        clear hxb
        have HBEL := Lib.hid hbel
        clear hbel
        go_wp2_with fail
        refine (kept_any B c m r t u ht hu _ HB.out).mono ?_
        rintro e w4 ⟨rfl, n4, rfl⟩
        go_wp2_with fail
        refine (use_ok B c m r t u (t - u) b1 (Int.le_refl _) ht hu _ (HB.out.drewN n4)).mono ?_
        rintro e w5 ⟨rfl, hk5, hg5⟩
        rw [show u + (t - u) = t by omega] at hk5
        have hb5 := below_only (below_drewN HBEL.out n4) hg5 (Nat.le_refl _) hsz
        have hs5 : B ≤ w5.heap.size := Nat.le_trans hsz hg5.size
        have y0 : w5.cell? ⟨B + 1, 0, none⟩ = some (.int .i64 c) := by rw [only_cell hg5 (p := ⟨B + 1, 0, none⟩) hxl (by simp)]; exact x0
        have hxl5 : B + 1 < w5.heap.size := Nat.lt_of_lt_of_le hxl hg5.size
        clear hg5 x0
        have HK5 := Lib.hid hk5
        clear hk5
        have HB5 := Lib.hid hb5
        clear hb5
        go_wp2_with fail
        refine (grant_any B c m r t t v (r + v) HV.out rfl i1 (by omega) hr ht _ HK5.out).mono ?_
        rintro e w6 ⟨rfl, hk6, hg6⟩
        have hb6 := below_only HB5.out hg6 (Nat.le_refl _) hs5
        have hs6 : B ≤ w6.heap.size := Nat.le_trans hs5 hg6.size
        have z0 : w6.cell? ⟨B + 1, 0, none⟩ = some (.int .i64 c) := by rw [only_cell hg6 (p := ⟨B + 1, 0, none⟩) hxl5 (by simp)]; exact y0
        clear hg6 y0
        have HK6 := Lib.hid hk6
        clear hk6
        have HB6 := Lib.hid hb6
        clear hb6
        have hcc2 : 0 ≤ c + 1 := by omega
        go_wp2_with fail
        rw [← HQ.out]
        refine (got_ok B c m (r + v) t t q (t + q) rfl b2 (.inr b3) hsm ht _ HK6.out).mono ?_
        rintro e w7 ⟨rfl, hk7, hg7⟩
        have hb7 := below_only HB6.out hg7 (Nat.le_refl _) hs6
        clear hg7
        have HK7 := Lib.hid hk7
        clear hk7
        have HB7 := Lib.hid hb7
        clear hb7
        go_wp2_with fail
        refine (kept_any B c m (r + v) (t + q) t hsm2 ht _ HK7.out).mono ?_
        rintro e w8 ⟨rfl, n8, rfl⟩
        rw [HKQ.out]
        go_wp2_with fail
        go_ret
        exact ⟨rfl, HG.out ▸ below_drewN HB7.out n8⟩

end Go.Proofs.Ytdcdfhonkjmpeaa.PaceHalf
