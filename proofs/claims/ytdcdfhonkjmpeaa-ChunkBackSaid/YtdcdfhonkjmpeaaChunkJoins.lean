import Derived.Test.YtdcdfhonkjmpeaaChunkAwake
namespace Go.Proofs.Ytdcdfhonkjmpeaa.ChunkJoins
open Go.ChangeShapes Go.WideShapes Go.ChangeAt Go.RowKit Go.Deep
set_option linter.unusedVariables false
open Chunk

theorem size_list (x : ByteArray) : x.data.toList.length = x.size := Array.length_toList

theorem joi_kept {w : World} {g : Nat} {k : List UInt8} {m : Int} {b : Bool} (h : Joi w g k m b) : Calls Try.prog 22 #[.pointer (some ⟨g, 0, none⟩)] w fun e w' => e = .returned (.int .i64 (k.length : Int)) ∧ w = w' := by
  obtain ⟨x, h1, h2⟩ := h
  obtain ⟨a, cap, rfl⟩ : ∃ a cap, x = .slice a k.length cap := by
    rcases h2.2 with ⟨h1, h2⟩ | ⟨gg, cap, cur, h1, _⟩
    · exact ⟨none, 0, by rw [h1, h2]⟩
    · exact ⟨_, cap, h1⟩
  exact kept_any g k.length a cap _ _ w h1
theorem joi_isbroken {w : World} {g : Nat} {k : List UInt8} {m : Int} {b : Bool} (h : Joi w g k m b) : Calls Try.prog 23 #[.pointer (some ⟨g, 0, none⟩)] w fun e w' => e = .returned (.bool b) ∧ w = w' := by
  obtain ⟨x, h1, h2⟩ := h
  exact broken_any g b _ _ w h1

set_option maxRecDepth 100000 in
set_option maxHeartbeats 12800000 in
theorem walk (w : World) (most : Int) (hmm : (Lit.int .i64 most).wf = true) (A : Option Addr) (n c : Nat) (hn : n ≤ c) (hc : c ≤ maxLen) (he : Elems w A n [IsStr]) :
    Calls Try.prog 5 #[.int .i64 most, .slice A n c] w fun e w' => e = .returned (.bool true) ∧ Below w.heap.size w w' := by
  clear hc
  have HE := Lib.hid he
  clear he
  obtain ⟨B, hB⟩ : ∃ g, w.heap.size = g := ⟨_, rfl⟩
  have hb0 : Below B w w := Below.refl _ _
  have hs0 : B ≤ w.heap.size := by omega
  have HG := Lib.hid hB
  clear hB
  by_cases hbad : most < 0 ∨ 65536 < most
  · have HBAD := Lib.hid hbad
    have hc : most < 0 ∨ (¬ most < 0 ∧ 65536 < most) := by omega
    clear hbad
    rcases hc with h1 | ⟨h1, h2⟩
    all_goals
      go_enter Try.func5, Try.ntmps5
      go_wp2_with fail
      refine (new_bad most HBAD.out _).mono ?_
      rintro e wx ⟨rfl, rfl⟩
      go_wp2_with fail
      refine (awake_any _).mono ?_
      rintro e w2 ⟨rfl, hb⟩
      go_wp2_with fail
      go_ret
      exact ⟨rfl, hb⟩
  · have n1 : ¬ most < 0 := by omega
    have n2 : ¬ 65536 < most := by omega
    clear hbad
    go_enter Try.func5, Try.ntmps5
    go_wp2_with fail
    refine (new_ok most (by omega) (by omega) _).mono ?_
    rintro e w1 ⟨rfl, hw1⟩
    rw [HG.out]
    have hj1 : Joi w1 B [] most false := by rw [hw1, ← HG.out]; exact Joi.new w most
    have hb1 : Below B w w1 := by rw [hw1]; exact hb0.alloc hs0 _
    have hs1 : B ≤ w1.heap.size := Nat.le_trans hs0 hb1.size
    clear hw1
    go_wp2_with fail
    refine (awake_any _).mono ?_
    rintro e w2 ⟨rfl, hm2⟩
    have hj2 := hj1.below hm2
    have hb2 := hb1.trans (hm2.mono hs1)
    clear hj1 hb1 hs1 hm2 hb0
    go_wp2_with fail
    go_loopw [7, 8, 9] (fun kv bv i wr => ∃ (j : Nat) (k : List UInt8) (b : Bool), j ≤ n ∧ j ≤ 100 ∧ i = .int .i64 j ∧ kv = .string ⟨k.toArray⟩ ∧ bv = .bool b ∧ (b = true → k = []) ∧ (k.length : Int) ≤ most ∧ Joi wr B k most b ∧ Below B w wr) (fun _ _ i _ => n - (intOf i).toNat)
    case atStart => exact ⟨0, [], false, Nat.zero_le _, Nat.zero_le _, rfl, rfl, rfl, fun h => rfl, by simp; omega, hj2, hb2⟩
    case round =>
      clear hj2 hb2
      obtain ⟨j, k, b, hj, hj100, rfl, rfl, rfl, hbk, hkm, hjoi, hbel⟩ := hrel
      have hin : j < n ∧ j < 100 ∨ ¬ (j < n ∧ j < 100) := by omega
      rcases hin with ⟨hlt, h100⟩ | hout
      · obtain ⟨bb, off, rfl, hbw, hcell⟩ := HE.out (by omega)
        obtain ⟨v0, c0, x, rfl, hx⟩ := hcell j hlt 0 _ rfl
        clear hcell
        rw [← hbel.cell (p := ⟨bb, _, none⟩) (by rw [← HG.out]; exact hbw)] at c0
        have d0 : wr.cell? ⟨bb, off + j, none⟩ = some (.string x) := by simpa using c0
        have hsz : B ≤ wr.heap.size := by rw [← HG.out]; exact hbel.size
        have hbB : bb < B := by rw [← HG.out]; exact hbw
        have hgs := hjoi.lt
        clear c0 hbw
        have hdd : ∀ w4, Same wr w4 B → w4.cell? ⟨bb, off + j, none⟩ = some (.string x) := fun w4 h => cells_same h hbB hgs _ d0
        have hbl : ∀ w4, Same wr w4 B → Below B w w4 := fun w4 h => Same.under hbel h (Nat.le_refl _) hgs
        have HJ := Lib.hid hjoi
        clear hjoi
        have HDD := Lib.hid hdd
        clear hdd
        have HBL := Lib.hid hbl
        clear hbl
        by_cases hbig : (3000 : Int) < (x.size : Int)
        · go_wp2_with fail
          go_roundw
          case rel => exact ⟨j + 1, k, b, by omega, by omega, by go_num, rfl, rfl, hbk, hkm, HJ.out, hbel⟩
          case measure => simp [intOf]; omega
        · clear hbel
          cases b with
          | true =>
            obtain rfl := hbk rfl
            go_wp2_with fail
            refine (joi_broken B [] most x _ HJ.out).mono ?_
            rintro e w4 ⟨rfl, hj4, hs4⟩
            have d4 := HDD.out _ hs4
            have hb4 := HBL.out _ hs4
            clear d0 hs4 HJ
            have HJ4 := Lib.hid hj4
            clear hj4
            have HB4 := Lib.hid hb4
            clear hb4
            go_wp2_with fail
            refine (joi_kept HJ4.out).mono ?_
            rintro e wx ⟨rfl, rfl⟩
            go_wp2_with fail
            refine (joi_isbroken HJ4.out).mono ?_
            rintro e wx ⟨rfl, rfl⟩
            go_wp2_with fail
            go_roundw
            case rel => exact ⟨j + 1, [], true, by omega, by omega, by go_num, rfl, rfl, fun _ => rfl, by simp; omega, HJ4.out, HB4.out⟩
            case measure => simp [intOf]; omega
          | false =>
            clear hbk
            rcases hxl : x.data.toList with _ | ⟨c1, rest⟩
            · obtain rfl : x = ⟨#[]⟩ := by rw [← bytes_mk x, hxl]
              clear hxl hbig
              go_wp2_with fail
              refine (joi_form B k most _ _ (.inl rfl) HJ.out).mono ?_
              rintro e w4 ⟨rfl, hj4, hs4⟩
              have d4 := HDD.out _ hs4
              have hb4 := HBL.out _ hs4
              clear d0 hs4 HJ
              have HJ4 := Lib.hid hj4
              clear hj4
              have HB4 := Lib.hid hb4
              clear hb4
              go_wp2_with fail
              refine (joi_kept HJ4.out).mono ?_
              rintro e wx ⟨rfl, rfl⟩
              go_wp2_with fail
              refine (joi_isbroken HJ4.out).mono ?_
              rintro e wx ⟨rfl, rfl⟩
              go_wp2_with fail
              go_roundw
              case rel => exact ⟨j + 1, [], true, by omega, by omega, by go_num, rfl, rfl, fun _ => rfl, by simp; omega, HJ4.out, HB4.out⟩
              case measure => simp [intOf]; omega
            · obtain rfl : x = ⟨(c1 :: rest).toArray⟩ := by rw [← bytes_mk x, hxl]
              have hr3 : rest.length + 1 ≤ 3000 := by
                have h0 : ((⟨(c1 :: rest).toArray⟩ : ByteArray).size : Int) = rest.length + 1 := rfl
                omega
              clear hxl hx
              have hbig' : ¬ (3000 : Int) < (rest.length : Int) + 1 := by omega
              clear hbig
              by_cases hc1 : 1 < c1.toNat
              · have hc1' : (1 : Int) < (c1.toNat : Int) := by omega
                have HC := Lib.hid hc1
                clear hc1
                go_wp2_with fail
                refine (joi_form B k most _ _ (.inr ⟨c1, rest, rfl, HC.out⟩) HJ.out).mono ?_
                rintro e w4 ⟨rfl, hj4, hs4⟩
                have d4 := HDD.out _ hs4
                have hb4 := HBL.out _ hs4
                clear d0 hs4 HJ
                have HJ4 := Lib.hid hj4
                clear hj4
                have HB4 := Lib.hid hb4
                clear hb4
                go_wp2_with fail
                refine (joi_kept HJ4.out).mono ?_
                rintro e wx ⟨rfl, rfl⟩
                go_wp2_with fail
                refine (joi_isbroken HJ4.out).mono ?_
                rintro e wx ⟨rfl, rfl⟩
                go_wp2_with fail
                go_roundw
                case rel => exact ⟨j + 1, [], true, by omega, by omega, by go_num, rfl, rfl, fun _ => rfl, by simp; omega, HJ4.out, HB4.out⟩
                case measure => simp [intOf]; omega
              · have hs1 : IntKind.i64.wrap ((k.length : Int) + ((rest.length : Int) + 1)) = (k.length : Int) + ((rest.length : Int) + 1) := IntWalk.i64_in _ (by omega)
                have hs2 : IntKind.i64.wrap ((k.length : Int) + (rest.length : Int)) = (k.length : Int) + (rest.length : Int) := IntWalk.i64_in _ (by omega)
                by_cases hfit : most - (k.length : Int) < (rest.length : Int)
                · have hc1' : ¬ (1 : Int) < (c1.toNat : Int) := by omega
                  have hfit' : most < (k.length : Int) + (rest.length : Int) := by omega
                  have HC := Lib.hid (And.intro hc1 hfit)
                  clear hc1 hfit
                  go_wp2_with fail
                  refine (joi_big B k most _ _ c1 rest rfl HC.out.1 (by omega) (by omega) hkm (by omega) HC.out.2 HJ.out).mono ?_
                  rintro e w4 ⟨rfl, hj4, hs4⟩
                  have d4 := HDD.out _ hs4
                  have hb4 := HBL.out _ hs4
                  clear d0 hs4 HJ
                  have HJ4 := Lib.hid hj4
                  clear hj4
                  have HB4 := Lib.hid hb4
                  clear hb4
                  go_wp2_with fail
                  refine (joi_kept HJ4.out).mono ?_
                  rintro e wx ⟨rfl, rfl⟩
                  go_wp2_with fail
                  refine (joi_isbroken HJ4.out).mono ?_
                  rintro e wx ⟨rfl, rfl⟩
                  go_wp2_with fail
                  go_roundw
                  case rel => exact ⟨j + 1, [], true, by omega, by omega, by go_num, rfl, rfl, fun _ => rfl, by simp; omega, HJ4.out, HB4.out⟩
                  case measure => simp [intOf]; omega
                · have hfit' : ¬ most < (k.length : Int) + (rest.length : Int) := by omega
                  have hcat : (ByteArray.mk k.toArray ++ ByteArray.mk rest.toArray) = ⟨(k ++ rest).toArray⟩ := ByteArray.mk_append_mk _ _
                  have hcs : ¬ 9223372036854775807 < k.length + rest.length := by omega
                  have hri : (1 : Int) ≤ (rest.length : Int) + 1 := by omega
                  rcases (show c1.toNat = 1 ∨ c1.toNat = 0 by omega) with hq | hq
                  · have hla : c1.toNat = (if false then 0 else 1) := by rw [hq]; rfl
                    have HC := Lib.hid (And.intro hla hfit)
                    clear hla hfit hc1
                    go_wp2_with fail
                    refine (joi_keep B k most _ _ c1 rest false rfl HC.out.1 (by omega) (Int.not_lt.mpr HC.out.2) HJ.out).mono ?_
                    rintro e w4 ⟨rfl, hj4, hs4⟩
                    have d4 := HDD.out _ hs4
                    have hb4 := HBL.out _ hs4
                    clear d0 hs4 HJ
                    have HJ4 := Lib.hid hj4
                    clear hj4
                    have HB4 := Lib.hid hb4
                    clear hb4
                    go_wp2_with fail
                    refine (joi_kept HJ4.out).mono ?_
                    rintro e wx ⟨rfl, rfl⟩
                    go_wp2_with fail
                    refine (joi_isbroken HJ4.out).mono ?_
                    rintro e wx ⟨rfl, rfl⟩
                    go_wp2_with fail
                    go_roundw
                    case rel => exact ⟨j + 1, k ++ rest, false, by omega, by omega, by go_num, rfl, rfl, (fun h => nomatch h), by rw [List.length_append]; omega, HJ4.out, HB4.out⟩
                    case measure => simp [intOf]; omega
                  · have hla : c1.toNat = (if true then 0 else 1) := by rw [hq]; rfl
                    have HC := Lib.hid (And.intro hla hfit)
                    clear hla hfit hc1
                    go_wp2_with fail
                    refine (joi_keep B k most _ _ c1 rest true rfl HC.out.1 (by omega) (Int.not_lt.mpr HC.out.2) HJ.out).mono ?_
                    rintro e w4 ⟨rfl, hj4, hs4⟩
                    have d4 := HDD.out _ hs4
                    have hb4 := HBL.out _ hs4
                    clear d0 hs4 HJ
                    have HJ4 := Lib.hid hj4
                    clear hj4
                    have HB4 := Lib.hid hb4
                    clear hb4
                    go_wp2_with fail
                    refine (joi_kept HJ4.out).mono ?_
                    rintro e wx ⟨rfl, rfl⟩
                    go_wp2_with fail
                    refine (joi_isbroken HJ4.out).mono ?_
                    rintro e wx ⟨rfl, rfl⟩
                    go_wp2_with fail
                    go_roundw
                    case rel => exact ⟨j + 1, [], false, by omega, by omega, by go_num, rfl, rfl, fun _ => rfl, by simp; omega, HJ4.out, HB4.out⟩
                    case measure => simp [intOf]; omega
      · by_cases hlt : j < n
        · have h100 : ¬ j < 100 := by omega
          clear hout hjoi hbk hkm
          go_wp2
          go_ret
          exact ⟨rfl, HG.out ▸ hbel⟩
        · clear hout hjoi hbk hkm
          go_wp2
          go_ret
          exact ⟨rfl, HG.out ▸ hbel⟩

end Go.Proofs.Ytdcdfhonkjmpeaa.ChunkJoins
