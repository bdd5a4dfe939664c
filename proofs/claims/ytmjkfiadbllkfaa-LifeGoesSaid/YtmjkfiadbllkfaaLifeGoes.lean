import Derived.Test.YtmjkfiadbllkfaaLifeLaws
namespace Go.Proofs.Ytmjkfiadbllkfaa.LifeGoes
open Go.ChangeShapes Go.WideShapes Go.ChangeAt Go.RowKit Go.Deep
set_option linter.unusedVariables false
open Life LifeLaws

def Rel (B : Nat) (w : World) (s t : Int) (wr : World) : Prop := 0 ≤ s ∧ s ≤ 4 ∧ 0 ≤ t ∧ t ≤ s ∧ Blk wr B 91 #[.int .i64 s] ∧ Below B w wr

theorem nx_up (s e : Int) (h0 : 0 ≤ s) (h1 : s ≤ 4) (h2 : 0 ≤ e) (h3 : e ≤ 5) : nx s e = -1 ∨ s < nx s e ∧ nx s e ≤ 4 := by
  unfold nx
  repeat (first | split | omega)

theorem ev_out (s e : Int) (h : e < 0 ∨ 5 < e) : 2 = evc s e ∧ s = evs s e := by
  unfold evc evs
  exact ⟨(if_neg (by omega)).symm, (if_neg (by omega)).symm⟩
theorem ev_no (s e : Int) (h : 0 ≤ e) (h' : e ≤ 5) (h'' : nx s e = -1) : 11 = evc s e ∧ s = evs s e := by
  unfold evc evs
  exact ⟨((if_pos ⟨h, h'⟩).trans (if_pos h'')).symm, ((if_pos ⟨h, h'⟩).trans (if_pos h'')).symm⟩
theorem ev_go (s e : Int) (h : 0 ≤ e) (h' : e ≤ 5) (h'' : nx s e ≠ -1) : 0 = evc s e ∧ nx s e = evs s e := by
  unfold evc evs
  exact ⟨((if_pos ⟨h, h'⟩).trans (if_neg h'')).symm, ((if_pos ⟨h, h'⟩).trans (if_neg h'')).symm⟩
theorem only_cell {w w' : World} {g : Nat} (h : w.grownBy w' (some g)) {p : Addr} (h1 : p.block < w.heap.size) (h2 : p.block ≠ g) : w'.cell? p = w.cell? p :=
  World.cell?_of_block (h.block p.block h1 (fun e => h2 (by injection e)))

set_option maxRecDepth 100000 in
set_option maxHeartbeats 4000000 in
theorem walk (w : World) (A : Option Addr) (n c : Nat) (hn : n ≤ c) (hc : c ≤ maxLen) (he : Elems w A n [IsInt .i64]) :
    Calls Try.prog 9 #[.slice A n c] w fun e w' => e = .returned (.bool true) ∧ Below w.heap.size w w' := by
  clear hc
  have HE := Lib.hid he
  clear he
  obtain ⟨B, hB⟩ : ∃ g, w.heap.size = g := ⟨_, rfl⟩
  have hb0 : Below B w w := Below.refl _ _
  have hs0 : B ≤ w.heap.size := by omega
  have HG := Lib.hid hB
  clear hB
  go_enter Try.func9, Try.ntmps9
  go_wp2_with fail
  refine (new_any _).mono ?_
  rintro e w1 ⟨rfl, hw1⟩
  rw [HG.out]
  have hk1 : Blk w1 B 91 #[.int .i64 0] := by rw [hw1, ← HG.out]; exact Blk.new _ _ _
  have hb1 : Below B w w1 := by rw [hw1]; exact hb0.alloc hs0 _
  have hs1 : B ≤ w1.heap.size := Nat.le_trans hs0 hb1.size
  clear hw1
  go_wp2_with fail
  refine (awake_any _).mono ?_
  rintro e w3 ⟨rfl, hm3⟩
  have hk3 := hk1.below hm3 hk1.lt
  have hb3 := hb1.trans (hm3.mono hs1)
  have hs3 : B ≤ w3.heap.size := Nat.le_trans hs0 hb3.size
  clear hk1 hb1 hs1 hm3
  go_wp2_with fail
  go_loopw [4, 5, 6] (fun st tk i wr => ∃ (k : Nat) (s t : Int), k ≤ n ∧ k ≤ 200 ∧ i = .int .i64 k ∧ st = .int .i64 s ∧ tk = .int .i64 t ∧ Rel B w s t wr) (fun _ _ i _ => n - (intOf i).toNat)
  case atStart => exact ⟨0, 0, 0, Nat.zero_le _, Nat.zero_le _, rfl, rfl, rfl, by omega, by omega, by omega, by omega, hk3, hb3⟩
  case round =>
    clear hb0 hk3 hb3 hs0 hs3
    obtain ⟨k, s, t, hk, hk200, rfl, rfl, rfl, h0, h1, ht0, ht1, hblk, hbel⟩ := hrel
    have hin : k < n ∧ k < 200 ∨ ¬ (k < n ∧ k < 200) := by omega
    rcases hin with ⟨hlt, h200⟩ | hout
    · obtain ⟨b, off, rfl, hbw, hcell⟩ := HE.out (by omega)
      obtain ⟨v0, c0, x, rfl, wx⟩ := hcell k hlt 0 _ rfl
      clear hcell
      rw [← hbel.cell (p := ⟨b, _, none⟩) (by rw [← HG.out]; exact hbw)] at c0
      have d0 : wr.cell? ⟨b, off + k, none⟩ = some (.int .i64 x) := by simpa using c0
      have hsz : B ≤ wr.heap.size := by rw [← HG.out]; exact hbel.size
      have hbB : b < B := by rw [← HG.out]; exact hbw
      clear c0 wx hbw
      have HB := Lib.hid hblk
      clear hblk
      have HBEL := Lib.hid hbel
      clear hbel
      have hxs : x < 0 ∨ 5 < x ∨ (0 ≤ x ∧ x ≤ 5) := by omega
      have hs5 : s = 0 ∨ s = 1 ∨ s = 2 ∨ s = 3 ∨ s = 4 := by omega
      rcases hxs with hx | hx | ⟨hx0, hx5⟩
      · rcases hs5 with rfl | rfl | rfl | rfl | rfl <;>
          (go_wp2_with fail
           refine (event_any B _ x _ _ (ev_out _ _ (.inl hx)).1 (ev_out _ _ (.inl hx)).2 h0 h1 _ HB.out).mono ?_
           rintro e w4 ⟨rfl, hk4, hg4⟩
           have d4 : w4.cell? ⟨b, off + k, none⟩ = some (.int .i64 x) := by rw [only_cell hg4 (p := ⟨b, _, none⟩) (Nat.lt_of_lt_of_le hbB hsz) (by simp; omega)]; exact d0
           have hb4 := below_only HBEL.out hg4 (Nat.le_refl _) hsz
           clear d0 hg4
           have HK4 := Lib.hid hk4
           clear hk4
           have HB4 := Lib.hid hb4
           clear hb4
           go_wp2_with fail
           refine (state_any B _ _ HK4.out).mono ?_
           rintro e wx ⟨rfl, rfl⟩
           go_wp2_with fail
           refine (maysend_any B _ _ rfl h0 h1 _ HK4.out).mono ?_
           rintro e wx ⟨rfl, rfl⟩
           go_wp2_with fail
           refine (mayrecv_any B _ _ rfl h0 h1 _ HK4.out).mono ?_
           rintro e wx ⟨rfl, rfl⟩
           go_wp2_with fail
           refine (done_any B _ _ rfl h0 h1 _ HK4.out).mono ?_
           rintro e wx ⟨rfl, rfl⟩
           go_wp2_with fail
           go_roundw
           case rel => exact ⟨k + 1, _, t, by omega, by omega, by go_num, rfl, rfl, h0, h1, by omega, by omega, HK4.out, HB4.out⟩
           case measure => simp [intOf]; omega)
      · rcases hs5 with rfl | rfl | rfl | rfl | rfl <;>
          (go_wp2_with fail
           refine (event_any B _ x _ _ (ev_out _ _ (.inr hx)).1 (ev_out _ _ (.inr hx)).2 h0 h1 _ HB.out).mono ?_
           rintro e w4 ⟨rfl, hk4, hg4⟩
           have d4 : w4.cell? ⟨b, off + k, none⟩ = some (.int .i64 x) := by rw [only_cell hg4 (p := ⟨b, _, none⟩) (Nat.lt_of_lt_of_le hbB hsz) (by simp; omega)]; exact d0
           have hb4 := below_only HBEL.out hg4 (Nat.le_refl _) hsz
           clear d0 hg4
           have HK4 := Lib.hid hk4
           clear hk4
           have HB4 := Lib.hid hb4
           clear hb4
           go_wp2_with fail
           refine (state_any B _ _ HK4.out).mono ?_
           rintro e wx ⟨rfl, rfl⟩
           go_wp2_with fail
           refine (maysend_any B _ _ rfl h0 h1 _ HK4.out).mono ?_
           rintro e wx ⟨rfl, rfl⟩
           go_wp2_with fail
           refine (mayrecv_any B _ _ rfl h0 h1 _ HK4.out).mono ?_
           rintro e wx ⟨rfl, rfl⟩
           go_wp2_with fail
           refine (done_any B _ _ rfl h0 h1 _ HK4.out).mono ?_
           rintro e wx ⟨rfl, rfl⟩
           go_wp2_with fail
           go_roundw
           case rel => exact ⟨k + 1, _, t, by omega, by omega, by go_num, rfl, rfl, h0, h1, by omega, by omega, HK4.out, HB4.out⟩
           case measure => simp [intOf]; omega)
      · have hup := nx_up s x h0 h1 hx0 hx5
        by_cases hno : nx s x = -1
        · clear hup
          have HX := Lib.hid hno
          clear hno
          rcases hs5 with rfl | rfl | rfl | rfl | rfl <;>
            (go_wp2_with fail
             refine (event_any B _ x _ _ (ev_no _ _ hx0 hx5 HX.out).1 (ev_no _ _ hx0 hx5 HX.out).2 h0 h1 _ HB.out).mono ?_
             rintro e w4 ⟨rfl, hk4, hg4⟩
             have d4 : w4.cell? ⟨b, off + k, none⟩ = some (.int .i64 x) := by rw [only_cell hg4 (p := ⟨b, _, none⟩) (Nat.lt_of_lt_of_le hbB hsz) (by simp; omega)]; exact d0
             have hb4 := below_only HBEL.out hg4 (Nat.le_refl _) hsz
             clear d0 hg4
             have HK4 := Lib.hid hk4
             clear hk4
             have HB4 := Lib.hid hb4
             clear hb4
             go_wp2_with fail
             refine (refnext_any _ x h0 h1 hx0 hx5 _).mono ?_
             rintro e wx ⟨rfl, rfl⟩
             rw [HX.out]
             go_wp2_with fail
             refine (state_any B _ _ HK4.out).mono ?_
             rintro e wx ⟨rfl, rfl⟩
             go_wp2_with fail
             refine (maysend_any B _ _ rfl h0 h1 _ HK4.out).mono ?_
             rintro e wx ⟨rfl, rfl⟩
             go_wp2_with fail
             refine (mayrecv_any B _ _ rfl h0 h1 _ HK4.out).mono ?_
             rintro e wx ⟨rfl, rfl⟩
             go_wp2_with fail
             refine (done_any B _ _ rfl h0 h1 _ HK4.out).mono ?_
             rintro e wx ⟨rfl, rfl⟩
             go_wp2_with fail
             go_roundw
             case rel => exact ⟨k + 1, _, t, by omega, by omega, by go_num, rfl, rfl, h0, h1, by omega, by omega, HK4.out, HB4.out⟩
             case measure => simp [intOf]; omega)
        · obtain ⟨m, hm⟩ : ∃ m, nx s x = m := ⟨_, rfl⟩
          have hm1 : s < m := by omega
          have hm4 : m ≤ 4 := by omega
          have hm0 : 0 ≤ m := by omega
          have hgo : 0 = evc s x ∧ m = evs s x := by rw [← hm]; exact ev_go s x hx0 hx5 hno
          clear hup hno
          have HX := Lib.hid hm
          clear hm
          have HGO := Lib.hid hgo
          clear hgo
          clear hs5
          have hm5 : m = 1 ∨ m = 2 ∨ m = 3 ∨ m = 4 := by omega
          rcases hm5 with rfl | rfl | rfl | rfl <;>
            (go_wp2_with fail
             refine (event_any B s x _ _ HGO.out.1 HGO.out.2 h0 h1 _ HB.out).mono ?_
             rintro e w4 ⟨rfl, hk4, hg4⟩
             have d4 : w4.cell? ⟨b, off + k, none⟩ = some (.int .i64 x) := by rw [only_cell hg4 (p := ⟨b, _, none⟩) (Nat.lt_of_lt_of_le hbB hsz) (by simp; omega)]; exact d0
             have hb4 := below_only HBEL.out hg4 (Nat.le_refl _) hsz
             clear d0 hg4
             have HK4 := Lib.hid hk4
             clear hk4
             have HB4 := Lib.hid hb4
             clear hb4
             go_wp2_with fail
             refine (refnext_any s x h0 h1 hx0 hx5 _).mono ?_
             rintro e wx ⟨rfl, rfl⟩
             rw [HX.out]
             go_wp2_with fail
             refine (state_any B _ _ HK4.out).mono ?_
             rintro e wx ⟨rfl, rfl⟩
             go_wp2_with fail
             refine (maysend_any B _ _ rfl hm0 hm4 _ HK4.out).mono ?_
             rintro e wx ⟨rfl, rfl⟩
             go_wp2_with fail
             refine (mayrecv_any B _ _ rfl hm0 hm4 _ HK4.out).mono ?_
             rintro e wx ⟨rfl, rfl⟩
             go_wp2_with fail
             refine (done_any B _ _ rfl hm0 hm4 _ HK4.out).mono ?_
             rintro e wx ⟨rfl, rfl⟩
             go_wp2_with fail
             go_roundw
             case rel => exact ⟨k + 1, _, t + 1, by omega, by omega, by go_num, rfl, (by go_num), hm0, hm4, by omega, by omega, HK4.out, HB4.out⟩
             case measure => simp [intOf]; omega)
    · have hd : decide (t ≤ 4) = true := by simp; omega
      by_cases hlt : k < n
      · have h200 : ¬ k < 200 := by omega
        clear hout
        go_wp2
        go_ret
        exact ⟨rfl, HG.out ▸ hbel⟩
      · clear hout
        go_wp2
        go_ret
        exact ⟨rfl, HG.out ▸ hbel⟩

end Go.Proofs.Ytmjkfiadbllkfaa.LifeGoes
