import Derived.Test.YtdcdfhonkjmpeaaChunkAwake
namespace Go.Proofs.Ytdcdfhonkjmpeaa.ChunkCuts
open Go.ChangeShapes Go.WideShapes Go.ChangeAt Go.RowKit Go.Deep
set_option linter.unusedVariables false
open Chunk

theorem cut_arg (s : ByteArray) (size : Int) (hb : size < 2 ∨ 256 < size) (w : World) :
    Calls Try.prog 15 #[.string s, .int .i64 size] w fun e w' => e = .returned (.tuple #[.slice none 0 0, .int .i64 2]) ∧ Below w.heap.size w w' := by
  have hmb : false = decide (2 ≤ size ∧ size ≤ 256) := by simp; omega
  clear hb
  have HM := Lib.hid hmb
  clear hmb
  go_enter Try.func15, Try.ntmps15
  go_wp2_with fail
  refine (may_any size false HM.out _).mono ?_
  rintro e w1 ⟨rfl, rfl⟩
  go_wp2_with fail
  go_ret2
  exact ⟨rfl, ((Below.refl _ _).alloc (Nat.le_refl _) _).alloc (by simp) _⟩

theorem cut_big (s : ByteArray) (size : Int) (h1 : 2 ≤ size) (h2 : size ≤ 256) (hs : 65536 < s.size) (w : World) :
    Calls Try.prog 15 #[.string s, .int .i64 size] w fun e w' => e = .returned (.tuple #[.slice none 0 0, .int .i64 4]) ∧ Below w.heap.size w w' := by
  have hmb : true = decide (2 ≤ size ∧ size ≤ 256) := by simp; omega
  have hsb : (65536 : Int) < (s.size : Int) := by omega
  clear h1 h2
  have HM := Lib.hid hmb
  clear hmb
  go_enter Try.func15, Try.ntmps15
  go_wp2_with fail
  refine (may_any size true HM.out _).mono ?_
  rintro e w1 ⟨rfl, rfl⟩
  go_wp2_with fail
  go_ret2
  exact ⟨rfl, ((Below.refl _ _).alloc (Nat.le_refl _) _).alloc (by simp) _⟩

set_option maxRecDepth 100000 in
theorem walk (w : World) (s : ByteArray) (hs : s.size ≤ maxLen) (size : Int) (hss : (Lit.int .i64 size).wf = true) :
    Calls Try.prog 3 #[.string s, .int .i64 size] w fun e w' => e = .returned (.bool true) ∧ Below w.heap.size w w' := by
  obtain ⟨B, hB⟩ : ∃ g, w.heap.size = g := ⟨_, rfl⟩
  have hb0 : Below B w w := Below.refl _ _
  have hs0 : B ≤ w.heap.size := by omega
  have HG := Lib.hid hB
  clear hB
  by_cases hbad : size < 2 ∨ 256 < size
  · have HBAD := Lib.hid hbad
    have hc : size < 2 ∨ (¬ size < 2 ∧ 256 < size) := by omega
    clear hbad
    rcases hc with h1 | ⟨h1, h2⟩
    all_goals
      go_enter Try.func3, Try.ntmps3
      go_wp2_with fail
      refine (cut_arg s size HBAD.out _).mono ?_
      rintro e w1 ⟨rfl, hb1⟩
      go_wp2_with fail
      refine (many_bad _ size (by have := HBAD.out; omega) _).mono ?_
      rintro e wx ⟨rfl, rfl⟩
      go_wp2_with fail
      refine (awake_any _).mono ?_
      rintro e w2 ⟨rfl, hb⟩
      go_wp2_with fail
      go_ret
      exact ⟨rfl, hb1.trans (hb.mono hb1.size)⟩
  · have n1 : ¬ size < 2 := by omega
    have n2 : ¬ 256 < size := by omega
    by_cases hbig : 65536 < s.size
    · have hbig' : (65536 : Int) < (s.size : Int) := by omega
      have h1 : 2 ≤ size := by omega
      have h2 : size ≤ 256 := by omega
      have HA := Lib.hid (And.intro h1 (And.intro h2 hbig))
      clear h1 h2 hbad
      go_enter Try.func3, Try.ntmps3
      go_wp2_with fail
      refine (cut_big s size HA.out.1 HA.out.2.1 HA.out.2.2 _).mono ?_
      rintro e w1 ⟨rfl, hb1⟩
      go_wp2_with fail
      refine (many_bad _ size (by omega) _).mono ?_
      rintro e wx ⟨rfl, rfl⟩
      go_wp2_with fail
      refine (awake_any _).mono ?_
      rintro e w2 ⟨rfl, hb⟩
      go_wp2_with fail
      go_ret
      exact ⟨rfl, hb1.trans (hb.mono hb1.size)⟩
    · obtain ⟨k, hk⟩ : ∃ k : Nat, size - 1 = k := ⟨(size - 1).toNat, by omega⟩
      obtain ⟨m, hm⟩ : ∃ m, m = manyN s.size k := ⟨_, rfl⟩
      have hsb : ¬ (65536 : Int) < (s.size : Int) := by omega
      have hml := manyN_le s.size k (by omega)
      rw [← hm] at hml
      have hcut := fun w => cut_ok s size k m hk (by omega) (by omega) (by omega) hm w
      have href := fun w => refcut_ok s size k m hk (by omega) (by omega) (by omega) hm w
      have hmn := fun w => many_nat (s.size : Int) size s.size k m rfl hk (by omega) (by omega) (by omega) hm w
      have HA := Lib.hid (And.intro hcut (And.intro href (And.intro hmn hml)))
      clear hcut href hmn hml hm hk hbad hbig
      go_enter Try.func3, Try.ntmps3
      go_wp2_with fail
      refine (HA.out.1 _).mono ?_
      rintro e w1 ⟨v, rfl, ho1, hb1⟩
      obtain ⟨a, c, rfl⟩ : ∃ a c, v = .slice a m c := by
        rcases ho1.2 with ⟨h1, h2⟩ | ⟨gg, cap, cur, h1, _⟩
        · exact ⟨none, 0, by rw [h1, h2]⟩
        · exact ⟨_, cap, h1⟩
      have HO1 := Lib.hid ho1
      clear ho1
      go_wp2_with fail
      refine (HA.out.2.2.1 _).mono ?_
      rintro e wx ⟨rfl, rfl⟩
      go_wp2_with fail
      refine (awake_any _).mono ?_
      rintro e w2 ⟨rfl, hb2⟩
      have hst2 := (IsStrs.of HO1.out).below hb2
      have hc2 := hb1.trans (hb2.mono hb1.size)
      have HS2 := Lib.hid hst2
      clear hst2
      go_wp2_with fail
      refine (HA.out.2.1 _).mono ?_
      rintro e w3 ⟨u, rfl, ho3, hb3⟩
      have hst3 := HS2.out.below hb3
      have hc3 := hc2.trans (hb3.mono hc2.size)
      have htx := texts_same _ _ _ _ _ (by simp [piecesTo]; have := HA.out.2.2.2; omega) w3 hst3 (IsStrs.of ho3)
      have HTX := Lib.hid htx
      clear htx
      clear ho3 hst3 hb3 HS2
      go_wp2_with fail
      refine HTX.out.mono ?_
      rintro e w4 ⟨rfl, hb4⟩
      have hc4 := hc3.trans (hb4.mono hc3.size)
      go_wp2_with fail
      go_ret
      exact ⟨rfl, hc4⟩

end Go.Proofs.Ytdcdfhonkjmpeaa.ChunkCuts
