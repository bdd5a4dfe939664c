import Derived.Test.YtdcdfhonkjmpeaaChunkAdd
namespace Go.Proofs.Ytdcdfhonkjmpeaa.Chunk
open Go.ChangeShapes Go.WideShapes Go.ChangeAt Go.RowKit Go.Deep
set_option linter.unusedVariables false
open Go.Lib

theorem cells_same {w w' : World} {g ga : Nat} (h : Same w w' g) (hga : ga < g) (hg : g < w.heap.size) (i : Nat) {v : Value} (hc : w.cell? ⟨ga, i, none⟩ = some v) : w'.cell? ⟨ga, i, none⟩ = some v := by
  rw [← hc]
  exact World.cell?_of_block (h.block ga (by omega) (by omega) (.inl hga))

theorem new_strs (w : World) (l : List ByteArray) (n : Nat) (hn : n = l.length) : IsStrs (w.alloc (.cells (strs l).toArray 9)) w.heap.size (.slice (some ⟨w.heap.size, 0, none⟩) n n) l := by
  subst hn
  refine .inr ⟨w.heap.size, l.length, rfl, Nat.le_refl _, by simp, Nat.le_refl _, fun i y hy => ?_⟩
  rw [(Blk.new w 9 (strs l).toArray).cell]
  simp [strs, hy]

theorem Same.under {w0 w w' : World} {g B : Nat} (hb : Below B w0 w) (h : Same w w' g) (hB : B ≤ g) (hg : g < w.heap.size) : Below B w0 w' :=
  ⟨h.os.trans hb.os, h.tape.trans hb.tape, h.output.trans hb.output, Nat.le_trans hb.size h.size, fun i hi => (h.block i (by omega) (by omega) (.inl (by omega))).trans (hb.block i hi)⟩

def abcde : List ByteArray := [⟨#[1, 97, 98]⟩, ⟨#[1, 99, 100]⟩, ⟨#[0, 101]⟩]

set_option maxRecDepth 100000 in
set_option maxHeartbeats 1600000 in
theorem awake_any (w : World) : Calls Try.prog 17 #[] w fun e w' => e = .returned (.bool true) ∧ Below w.heap.size w w' := by
  obtain ⟨B, hB⟩ : ∃ B, w.heap.size = B := ⟨_, rfl⟩
  have hb0 : Below B w w := Below.refl _ _
  rw [hB]
  have hs0 : B ≤ w.heap.size := by omega
  have hcut := cut_ok ⟨#[97, 98, 99, 100, 101]⟩ 3 2 3 (by decide) (by decide) (by decide) (by decide) (by decide) w
  rw [hB] at hcut
  have HB := Lib.hid hB
  clear hB
  go_enter Try.func17, Try.ntmps17
  go_wp2_with fail
  refine hcut.mono ?_
  rintro e w1 ⟨v, rfl, hown, hb1⟩
  have hs1 : B ≤ w1.heap.size := Nat.le_trans hs0 hb1.size
  have hst : IsStrs w1 B v abcde := IsStrs.of (l := abcde) hown
  have hlt1 : ∃ ga ca, v = .slice (some ⟨ga, 0, none⟩) 3 ca ∧ B ≤ ga ∧ ga < w1.heap.size := by
    rcases own_cell (l := abcde) hown with ⟨_, h⟩ | ⟨ga, ca, h1, h2, h3, _⟩
    · exact absurd h (by decide)
    · exact ⟨ga, ca, h1, h2, h3⟩
  obtain ⟨ga, ca, rfl, hga1, hga2⟩ := hlt1
  clear hown hcut
  have HST := Lib.hid hst
  clear hst
  go_wp2_with fail
  refine (new_ok 10 (by decide) (by decide) _).mono ?_
  rintro e w2 ⟨rfl, hw2⟩
  obtain ⟨g, hg⟩ : ∃ g, w1.heap.size = g := ⟨_, rfl⟩
  have hj2 : Joi w2 g [] 10 false := by rw [hw2, ← hg]; exact Joi.new w1 10
  have hm2 : Below w1.heap.size w1 w2 := by rw [hw2]; exact (Below.refl _ _).alloc (Nat.le_refl _) _
  have hst2 := HST.out.below hm2
  have hb2 := hb1.trans (hm2.mono hs1)
  have hs2 : B ≤ w2.heap.size := Nat.le_trans hs0 hb2.size
  have hBg : B ≤ g := by rw [← hg]; exact hs1
  rw [hg] at hga2
  rw [hg]
  clear hw2 hm2 HST
  have HG := Lib.hid hg
  clear hg
  have HJ2 := Lib.hid hj2
  clear hj2
  have hlit := new_strs w2 abcde 3 rfl
  have hal : Below w2.heap.size w2 (w2.alloc (.cells (strs abcde).toArray 9)) := (Below.refl _ _).alloc (Nat.le_refl _) _
  have hst3 := hst2.below hal
  have hj3 := HJ2.out.below hal
  have hb3 := hb2.trans (hal.mono hs2)
  have hs3 : B ≤ (w2.alloc (.cells (strs abcde).toArray 9)).heap.size := Nat.le_trans hs0 hb3.size
  have htx := texts_same _ _ abcde _ _ (by decide) _ hst3 hlit
  have q0 := hst3.at 0 _ rfl
  have q1 := hst3.at 1 _ rfl
  have q2 := hst3.at 2 _ rfl
  have HT := Lib.hid (And.intro htx (And.intro hj3 (And.intro hb3 (And.intro hs3 (And.intro q0 (And.intro q1 q2))))))
  clear hlit hal hst3 hj3 hb3 hs3 htx q0 q1 q2 hst2
  go_wp2_with fail
  refine HT.out.1.mono ?_
  rintro e w4 ⟨rfl, hb4⟩
  obtain ⟨-, hj, hbb, hss, ⟨g0, k0, e0, q0, -, r0⟩, ⟨g1, k1, e1, q1, -, -⟩, ⟨g2, k2, e2, q2, -, -⟩⟩ := HT.out
  injection e0 with e0 _ _
  injection e0 with e0
  injection e0 with e0 _ _
  subst e0
  injection e1 with e1 _ _
  injection e1 with e1
  injection e1 with e1 _ _
  subst e1
  injection e2 with e2 _ _
  injection e2 with e2
  injection e2 with e2 _ _
  subst e2
  rw [← hb4.cell (p := ⟨ga, _, none⟩) r0] at q0 q1 q2
  have hj4 := hj.below hb4
  have hb5 := hbb.trans (hb4.mono hss)
  have hs5 : B ≤ w4.heap.size := Nat.le_trans hs0 hb5.size
  clear hj hbb hss hb4 r0 HT HJ2
  have HJ4 := Lib.hid hj4
  clear hj4
  go_wp2_with fail
  refine (joi_keep g [] 10 _ _ 1 [97, 98] false rfl rfl (by decide) (by decide) HJ4.out).mono ?_
  rintro e w6 ⟨rfl, hj6, hm6⟩
  have q1' := cells_same hm6 hga2 HJ4.out.lt 1 q1
  have q2' := cells_same hm6 hga2 HJ4.out.lt 2 q2
  have hb6 := Same.under hb5 hm6 hBg HJ4.out.lt
  have hs6 : B ≤ w6.heap.size := Nat.le_trans hs0 hb6.size
  clear hm6 hb5 hs5 q0 q1 q2 HJ4
  have HJ6 := Lib.hid hj6
  clear hj6
  go_wp2_with fail
  refine (joi_keep g [97, 98] 10 _ _ 1 [99, 100] false rfl rfl (by decide) (by decide) HJ6.out).mono ?_
  rintro e w7 ⟨rfl, hj7, hm7⟩
  have q2 := cells_same hm7 hga2 HJ6.out.lt 2 q2'
  have hb7 := Same.under hb6 hm7 hBg HJ6.out.lt
  clear hm7 hb6 hs6 q1' q2' HJ6
  have HJ7 := Lib.hid hj7
  clear hj7
  go_wp2_with fail
  refine (joi_keep g [97, 98, 99, 100] 10 _ _ 0 [101] true rfl rfl (by decide) (by decide) HJ7.out).mono ?_
  rintro e w8 ⟨rfl, hj8, hm8⟩
  have hb8 := Same.under hb7 hm8 hBg HJ7.out.lt
  clear hm8 hb7 hj8 q2 HJ7
  go_wp2_with fail
  refine (many_nat 5 3 5 2 3 rfl rfl (by decide) (by decide) (by decide) (by decide) _).mono ?_
  rintro e w9 ⟨rfl, rfl⟩
  go_wp2_with fail
  go_ret
  exact ⟨rfl, hb8⟩

end Go.Proofs.Ytdcdfhonkjmpeaa.Chunk
