import Derived.Test.YtdcdfhonkjmpeaaPaceSame
namespace Go.Proofs.Ytdcdfhonkjmpeaa.PaceDoes
open Go.ChangeShapes Go.WideShapes Go.ChangeAt Go.RowKit Go.Deep
set_option linter.unusedVariables false
open Pace PaceLaws PaceSame

/-- What a round starts from. -/
def Rel (B : Nat) (w : World) (k : Nat) (wr : World) : Prop :=
  ∃ c m r t u : Int, Inv k c m r t u ∧ Blk wr B 93 (P.cells ⟨c, m, r, t, u⟩) ∧ Blk wr (B + 1) 55 (P.cells ⟨c, m, r, t, u⟩) ∧ Below B w wr

theorem Inv.start (c : Int) (h0 : 0 ≤ c) (h1 : c ≤ 2147483647) : Inv 0 c c c 0 0 := ⟨h0, Int.le_refl _, h1, by omega, by omega, by omega, by omega, by omega, by omega, by omega⟩

set_option maxRecDepth 100000 in
set_option maxHeartbeats 6400000 in
theorem walk (w : World) (c0 : Int) (hcw : (Lit.int .i64 c0).wf = true) (A : Option Addr) (n c : Nat) (hn : n ≤ c) (hc : c ≤ maxLen) (he : Elems w A n [IsInt .i64, IsInt .i64]) :
    Calls Try.prog 12 #[.int .i64 c0, .slice A n c] w fun e w' => e = .returned (.bool true) ∧ Below w.heap.size w w' := by
  clear hc
  have HE := Lib.hid he
  clear he
  clear hcw
  rcases (show c0 < 0 ∨ 2147483647 < c0 ∨ (0 ≤ c0 ∧ c0 ≤ 2147483647) by omega) with hbad | hbad | ⟨hc0, hc1⟩
  · have hb : c0 < 0 ∨ 2147483647 < c0 := by omega
    have HBAD := Lib.hid hb
    clear hb
    go_enter Try.func12, Try.ntmps12
    go_wp2_with fail
    refine (new_bad c0 _ HBAD.out).mono ?_
    rintro e w1 ⟨rfl, rfl⟩
    go_wp2_with fail
    refine (awake_any _).mono ?_
    rintro e w3 ⟨rfl, hm3⟩
    go_wp2_with fail
    go_ret
    exact ⟨rfl, hm3⟩
  · have hb : c0 < 0 ∨ 2147483647 < c0 := by omega
    have HBAD := Lib.hid hb
    clear hb
    have hnb : ¬ c0 < 0 := by omega
    go_enter Try.func12, Try.ntmps12
    go_wp2_with fail
    refine (new_bad c0 _ HBAD.out).mono ?_
    rintro e w1 ⟨rfl, rfl⟩
    go_wp2_with fail
    refine (awake_any _).mono ?_
    rintro e w3 ⟨rfl, hm3⟩
    go_wp2_with fail
    go_ret
    exact ⟨rfl, hm3⟩
  have hnb : ¬ c0 < 0 := by omega
  have hnc : ¬ 2147483647 < c0 := by omega
  obtain ⟨B, hB⟩ : ∃ g, w.heap.size = g := ⟨_, rfl⟩
  have hb0 : Below B w w := Below.refl _ _
  have hs0 : B ≤ w.heap.size := by omega
  have HG := Lib.hid hB
  clear hB
  go_enter Try.func12, Try.ntmps12
  go_wp2_with fail
  refine (new_any c0 _ hc0 hc1).mono ?_
  rintro e w1 ⟨rfl, hw1⟩
  rw [HG.out]
  have hk1 : Blk w1 B 93 (P.cells ⟨c0, c0, c0, 0, 0⟩) := by rw [hw1, ← HG.out]; exact Blk.new _ _ _
  have hb1 : Below B w w1 := by rw [hw1]; exact hb0.alloc hs0 _
  have hz1 : w1.heap.size = B + 1 := by rw [hw1, ← HG.out]; simp
  clear hw1
  go_wp2_with fail
  refine (refnew_any c0 _).mono ?_
  rintro e w2 ⟨rfl, hw2⟩
  rw [hz1]
  have hx2 : Blk w2 (B + 1) 55 (P.cells ⟨c0, c0, c0, 0, 0⟩) := by rw [hw2, ← hz1]; exact Blk.new _ _ _
  have hk2 : Blk w2 B 93 (P.cells ⟨c0, c0, c0, 0, 0⟩) := by rw [hw2]; exact hk1.alloc _
  have hb2 : Below B w w2 := by rw [hw2]; exact hb1.alloc (by omega) _
  have hs2 : B ≤ w2.heap.size := Nat.le_trans hs0 hb2.size
  clear hw2 hz1 hk1 hb1
  go_wp2_with fail
  refine (awake_any _).mono ?_
  rintro e w3 ⟨rfl, hm3⟩
  have hk3 := hk2.below hm3 hk2.lt
  have hx3 := hx2.below hm3 hx2.lt
  have hb3 := hb2.trans (hm3.mono hs2)
  clear hk2 hx2 hb2 hs2 hm3
  go_wp2_with fail
  go_loopw [8] (fun i wr => ∃ k : Nat, k ≤ n ∧ k ≤ 100 ∧ i = .int .i64 k ∧ Rel B w k wr) (fun i _ => n - (intOf i).toNat)
  case atStart => exact ⟨0, Nat.zero_le _, Nat.zero_le _, rfl, c0, c0, c0, 0, 0, Inv.start c0 hc0 hc1, hk3, hx3, hb3⟩
  case round =>
    clear hb0 hk3 hx3 hb3 hs0
    obtain ⟨k, hk, hk100, rfl, c, m, r, t, u, hinv, hblk, hxb, hbel⟩ := hrel
    have hin : k < n ∧ k < 100 ∨ ¬ (k < n ∧ k < 100) := by omega
    rcases hin with ⟨hlt, h100⟩ | hout
    · obtain ⟨b, off, rfl, hbw, hcell⟩ := HE.out (by omega)
      obtain ⟨v0, c0', x, rfl, wx⟩ := hcell k hlt 0 _ rfl
      obtain ⟨v1, c1', y, rfl, wy⟩ := hcell k hlt 1 _ rfl
      clear hcell wx wy
      rw [← hbel.cell (p := ⟨b, _, none⟩) (by rw [← HG.out]; exact hbw)] at c0' c1'
      have d0 : wr.cell? ⟨b, off + k * 2, none⟩ = some (.int .i64 x) := c0'
      have d1 : wr.cell? ⟨b, off + k * 2 + 1, none⟩ = some (.int .i64 y) := c1'
      clear c0' c1' hbw
      have HBEL := Lib.hid hbel
      clear hbel
      have HXB := Lib.hid hxb
      clear hxb
      have HB := Lib.hid hblk
      clear hblk
      have HINV := Lib.hid hinv
      clear hinv
      go_wp2_with fail
      refine (do_any B B (B + 1) k c m r t u x y (by omega) HINV.out _ HB.out HXB.out ⟨Nat.le_refl _, by omega⟩).mono ?_
      rintro e w5 ⟨c1, m1, r1, t1, u1, rfl, hinv1, hk5, hx5, hm5⟩
      have hb5 := HBEL.out.trans hm5
      clear d0 d1 hm5
      have HB5 := Lib.hid hb5
      clear hb5
      have HX5 := Lib.hid hx5
      clear hx5
      have HK5 := Lib.hid hk5
      clear hk5
      have HI1 := Lib.hid hinv1
      clear hinv1
      have hs5 : B ≤ w5.heap.size := by rw [← HG.out]; exact HB5.out.size
      obtain ⟨sr, st, su⟩ := HI1.out.small (by omega)
      obtain ⟨j0, j1⟩ : 0 ≤ c1 ∧ c1 ≤ 2147483647 := by obtain ⟨i1, i2, i3, i4, i5, i6, i7, i8, i9, i10⟩ := HI1.out; omega
      go_wp2_with fail
      refine (same_any B B (B + 1) c1 m1 r1 t1 u1 j0 j1 sr st su _ HK5.out HX5.out ⟨Nat.le_refl _, by omega⟩ hs5).mono ?_
      rintro e w6 ⟨rfl, hk6, hx6, hm6⟩
      have hb6 := HB5.out.trans hm6
      have HB6 := Lib.hid hb6
      clear hb6
      have HK6 := Lib.hid hk6
      clear hk6
      have HX6 := Lib.hid hx6
      clear hx6
      clear hm6
      go_wp2_with fail
      go_roundw
      case rel => exact ⟨k + 1, by omega, by omega, by go_num, c1, m1, r1, t1, u1, HI1.out, HK6.out, HX6.out, HB6.out⟩
      case measure => simp [intOf]; omega
    · by_cases hlt : k < n
      · have h100 : ¬ k < 100 := by omega
        clear hout hblk hxb hinv
        go_wp2
        go_ret
        exact ⟨rfl, HG.out ▸ hbel⟩
      · clear hout hblk hxb hinv
        go_wp2
        go_ret
        exact ⟨rfl, HG.out ▸ hbel⟩

end Go.Proofs.Ytdcdfhonkjmpeaa.PaceDoes
