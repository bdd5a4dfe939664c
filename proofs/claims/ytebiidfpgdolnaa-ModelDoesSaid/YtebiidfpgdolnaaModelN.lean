import Derived.Test.YtebiidfpgdolnaaModelT
import Derived.Test.YtebiidfpgdolnaaModelC
namespace Go.Proofs.Ytebiidfpgdolnaa.ModelNone
open Go.ChangeShapes Go.WideShapes Go.ChangeAt Go.RowKit Go.Deep
set_option linter.unusedVariables false
open Model

set_option maxRecDepth 100000 in
set_option maxHeartbeats 3200000 in
theorem awake_any (w : World) : Calls Try.prog 6 #[] w fun e w' => e = .returned (.bool true) ∧ Below w.heap.size w w' := by
  obtain ⟨B, hB⟩ : ∃ g, w.heap.size = g := ⟨_, rfl⟩
  have hb0 : Below B w w := Below.refl _ _
  have hs0 : B ≤ w.heap.size := by omega
  have HG := Lib.hid hB
  clear hB
  have hnew := new_ok 1 10 0 (.inl ⟨rfl, by decide⟩) (by decide) w
  rw [HG.out] at hnew ⊢
  go_enter Try.func6, Try.ntmps6
  go_wp2_with fail
  refine hnew.mono ?_
  rintro e w1 ⟨rfl, hw1⟩
  have hk1 : Blk w1 B 56 (fl 1 10 0 (.slice none 0 0) ⟨#[]⟩ (.slice none 0 0) (.slice none 0 0) ⟨#[]⟩ false false false 0 0 0) := by rw [hw1, ← HG.out]; exact Blk.new _ _ _
  have hb1 : Below B w w1 := by rw [hw1]; exact hb0.alloc hs0 _
  have hs1 : B ≤ w1.heap.size := Nat.le_trans hs0 hb1.size
  clear hw1 hnew
  have HK1 := Lib.hid hk1
  clear hk1
  go_wp2_with fail
  refine (offer_bytes B 10 0 _ ⟨#[]⟩ _ _ _ false false 0 0 0 ⟨#[97, 98, 99]⟩ 3 10 (by decide) (by decide) (by decide) (by decide) (by decide) (by decide) _ HK1.out).mono ?_
  rintro e w2 ⟨rfl, hk2, hg2⟩
  have hk2' : Blk w2 B 56 (fl 1 10 0 (.slice none 0 0) ⟨#[97, 98, 99]⟩ (.slice none 0 0) (.slice none 0 0) ⟨#[]⟩ false false false 3 0 0) := hk2
  have hb2 := below_only hb1 hg2 (Nat.le_refl _) hs1
  have hs2 : B ≤ w2.heap.size := Nat.le_trans hs0 hb2.size
  clear hk2 hg2 hb1 hs1 HK1
  have HK2 := Lib.hid hk2'
  clear hk2'
  go_wp2_with fail
  refine (sent_bytes B 10 0 _ ⟨#[97, 98, 99]⟩ _ _ _ false false 3 0 0 ⟨#[97, 98]⟩ false 0 [] (by decide) (by decide) _ HK2.out (Rd.nil _ _ _)).mono ?_
  rintro e w3 ⟨rfl, vy, hk3, hrd3, hg3⟩
  have hb3 := below_only hb2 hg3 (Nat.le_refl _) hs2
  have hs3 : B ≤ w3.heap.size := Nat.le_trans hs0 hb3.size
  clear hg3 hb2 hs2 HK2
  obtain ⟨h, off, cap, rfl, hcap, d0, d1⟩ := Rd.head (xs := []) hrd3 (by decide)
  have HK3 := Lib.hid hk3
  clear hk3
  have HR3 := Lib.hid hrd3
  clear hrd3
  have HD := Lib.hid (And.intro d0 (And.intro d1 hcap))
  clear d0 d1 hcap
  go_wp2_with fail
  refine (came_no B 10 0 _ _ _ _ false false false 3 0 0 1 ⟨#[97, 98, 99]⟩ ⟨#[97, 98]⟩ false false h off 1 cap (by decide) (by decide) _ HK3.out HD.out.1 HD.out.2.1).mono ?_
  rintro e wx ⟨rfl, rfl⟩
  go_wp2_with fail
  refine (came_bytes B 10 0 _ _ _ _ false false false 3 0 0 ⟨#[97, 98]⟩ false h off 1 cap _ (by decide) HD.out.2.2 (by decide) _ HK3.out HD.out.1 HD.out.2.1 HR3.out).mono ?_
  rintro e w4 ⟨rfl, vy4, hk4, hrd4, hg4⟩
  have hb4 := below_only hb3 hg4 (Nat.le_refl _) hs3
  have hs4 : B ≤ w4.heap.size := Nat.le_trans hs0 hb4.size
  clear hg4 hrd4 hb3 hs3 HK3 HR3 HD
  have hk4' : ∃ y4, Blk w4 B 56 (fl 1 10 0 (.slice none 0 0) y4 vy4 (.slice none 0 0) ⟨#[97, 98]⟩ false false false 3 0 0) := ⟨_, hk4⟩
  obtain ⟨y4, hk4'⟩ := hk4'
  clear hk4
  have HK4 := Lib.hid hk4'
  clear hk4'
  go_wp2_with fail
  refine (read_any B 10 0 _ _ _ _ ⟨#[97, 98]⟩ false false false 3 0 0 1 9 2 (by decide) (by decide) (by decide) (by decide) _ HK4.out).mono ?_
  rintro e w5 ⟨rfl, hk5, hg5⟩
  have hb5 := below_only hb4 hg5 (Nat.le_refl _) hs4
  clear hg5 hb4 hs4 HK4
  have HK5 := Lib.hid hk5
  clear hk5
  have hex : (⟨#[97, 98]⟩ : ByteArray).extract 0 2 = ⟨#[97, 98]⟩ := by decide
  rw [hex]
  go_wp2_with fail
  refine (done_any B 10 0 _ _ _ _ false false false 3 0 _ 1 none 0 0 false rfl _ HK5.out).mono ?_
  rintro e wx ⟨rfl, rfl⟩
  go_wp2_with fail
  go_ret
  exact ⟨rfl, hb5⟩

set_option maxRecDepth 100000 in
set_option maxHeartbeats 6400000 in
theorem walk (w : World) (k : Int) (hk : (Lit.int .i64 k).wf = true) (n : Int) (hn : (Lit.int .i64 n).wf = true) (x : ByteArray) (hx : x.size ≤ maxLen) (e : Bool) :
    Calls Try.prog 4 #[.agg #[.int .i64 k, .int .i64 n, .string x, .bool e]] w fun f w' => f = .returned (.bool true) ∧ Below w.heap.size w w' := by
  obtain ⟨B, hB⟩ : ∃ g, w.heap.size = g := ⟨_, rfl⟩
  have hb0 : Below B w w := Below.refl _ _
  have hs0 : B ≤ w.heap.size := by omega
  have HG := Lib.hid hB
  clear hB
  have hba := Blk.new w 33 #[.int .i64 k, .int .i64 n, .string x, .bool e]
  have hal : Below B w (w.alloc (.cells #[.int .i64 k, .int .i64 n, .string x, .bool e] 33)) := hb0.alloc hs0 _
  have hsz : (w.alloc (.cells #[.int .i64 k, .int .i64 n, .string x, .bool e] 33)).heap.size = w.heap.size + 1 := by simp
  have HA := Lib.hid (And.intro hba (And.intro hal hsz))
  clear hba hal hsz
  have x1 := HA.out.1.cell 1
  have x2 := HA.out.1.cell 2
  have x3 := HA.out.1.cell 3
  go_enter Try.func4, Try.ntmps4
  go_wp2_with fail
  refine (offer_nil _ _).mono ?_
  rintro e1 wx ⟨rfl, rfl⟩
  go_wp2_with fail
  refine (item_nil _).mono ?_
  rintro e1 wx ⟨rfl, rfl⟩
  go_wp2_with fail
  refine (rows_nil _).mono ?_
  rintro e1 w2 ⟨rfl, hm2⟩
  have hb2 : Blk w2 w.heap.size 33 #[.int .i64 k, .int .i64 n, .string x, .bool e] := HA.out.1.below hm2 HA.out.1.lt
  have hc2 := HA.out.2.1.trans (hm2.mono (by have := HA.out.2.2; omega))
  have hs2 := hm2.size
  rw [HA.out.2.2] at hs2
  clear hm2 x1 x2 x3
  have HB2 := Lib.hid hb2
  clear hb2
  go_wp2_with fail
  refine (counts_nil _).mono ?_
  rintro e1 wx ⟨rfl, rfl⟩
  go_wp2_with fail
  refine (awake_any _).mono ?_
  rintro e1 w3 ⟨rfl, hm3⟩
  have hb3 : Blk w3 w.heap.size 33 #[.int .i64 k, .int .i64 n, .string x, .bool e] := HB2.out.below hm3 HB2.out.lt
  have hc3 := hc2.trans (hm3.mono (by omega))
  have x1 := hb3.cell 1
  have x2 := hb3.cell 2
  have x3 := hb3.cell 3
  clear hm3 hc2 hb3
  go_wp2_with fail
  refine (finish_nil _).mono ?_
  rintro e1 wx ⟨rfl, rfl⟩
  go_wp2_with fail
  refine (sent_nil _ _ _).mono ?_
  rintro e1 wx ⟨rfl, rfl⟩
  go_wp2_with fail
  refine (came_nil _ _ _).mono ?_
  rintro e1 wx ⟨rfl, rfl⟩
  go_wp2_with fail
  have hcatl : (ByteArray.mk #[] ++ ByteArray.mk #[]).toList = [] := (nil_iff _).2 (by decide)
  refine (read_nil _ _).mono ?_
  rintro e1 wx ⟨rfl, rfl⟩
  go_wp2_with fail
  refine (kind_nil _).mono ?_
  rintro e1 wx ⟨rfl, rfl⟩
  go_wp2_with fail
  refine (done_nil _).mono ?_
  rintro e1 wx ⟨rfl, rfl⟩
  go_wp2_with fail
  refine (out_nil _).mono ?_
  rintro e1 wx ⟨rfl, rfl⟩
  go_wp2_with fail
  go_ret
  exact ⟨rfl, HG.out ▸ hc3⟩

end Go.Proofs.Ytebiidfpgdolnaa.ModelNone
