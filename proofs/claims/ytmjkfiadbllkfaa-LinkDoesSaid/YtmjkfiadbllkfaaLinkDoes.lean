import Derived.Test.YtmjkfiadbllkfaaLinkOrder
namespace Go.Proofs.Ytmjkfiadbllkfaa.LinkDoes
open Go.ChangeShapes Go.WideShapes Go.ChangeAt Go.RowKit Go.Deep
set_option linter.unusedVariables false
open Link LinkLaws LinkOrder

/-- What a round starts from: the bytes that are there, how many came, how many went. -/
def Rel2 (B : Nat) (lim : Int) (w : World) (k : Nat) (S : ByteArray) (came went : Int) (wr : World) : Prop :=
  (S.size : Int) ≤ lim ∧ 0 ≤ came ∧ came ≤ 2000 * (k : Int) ∧ 0 ≤ went ∧ came = went + S.size ∧ LinkAt wr B B lim came went S.data.toList ∧ Below B w wr

theorem extract_drop (s : ByteArray) (k : Nat) : (s.extract k s.size).data.toList = s.data.toList.drop k := by
  have h : s.data.toList.length = s.size := Array.length_toList
  rw [ByteArray.data_extract, Array.toList_extract, List.extract_eq_take_drop]
  exact List.take_of_length_le (by rw [List.length_drop]; omega)
theorem size_cut (s : ByteArray) (k : Nat) : (s.extract k s.size).size = s.size - k := by
  rw [← size_toList, extract_drop, List.length_drop, size_toList]

set_option maxRecDepth 100000 in
set_option maxHeartbeats 6400000 in
theorem walk (w : World) (lim : Int) (_ : (Lit.int .i64 lim).wf = true) (A : Option Addr) (n c : Nat) (hn : n ≤ c) (hc : c ≤ maxLen) (he : Elems w A n [IsInt .i64, IsInt .i64, IsStr]) :
    Calls Try.prog 6 #[.int .i64 lim, .slice A n c] w fun e w' => e = .returned (.bool true) ∧ Below w.heap.size w w' := by
  clear hc
  have HE := Lib.hid he
  clear he
  obtain ⟨B, hB⟩ : ∃ g, w.heap.size = g := ⟨_, rfl⟩
  have hb0 : Below B w w := Below.refl _ _
  have hs0 : B ≤ w.heap.size := by omega
  have HG := Lib.hid hB
  clear hB
  have hlim : lim < 0 ∨ 1048576 < lim ∨ 0 ≤ lim ∧ lim ≤ 1048576 := by omega
  rcases hlim with hl | hl | ⟨hl0, hl1⟩
  · go_enter Try.func6, Try.ntmps6
    go_wp2_with fail
    refine (new_bad lim _ (.inl hl)).mono ?_
    rintro e wx ⟨rfl, rfl⟩
    go_wp2_with fail
    refine (awake_any _).mono ?_
    rintro e w1 ⟨rfl, hb1⟩
    go_wp2_with fail
    go_ret
    exact ⟨rfl, hb1⟩
  · go_enter Try.func6, Try.ntmps6
    go_wp2_with fail
    refine (new_bad lim _ (.inr hl)).mono ?_
    rintro e wx ⟨rfl, rfl⟩
    go_wp2_with fail
    refine (awake_any _).mono ?_
    rintro e w1 ⟨rfl, hb1⟩
    go_wp2_with fail
    go_ret
    exact ⟨rfl, hb1⟩
  go_enter Try.func6, Try.ntmps6
  go_wp2_with fail
  refine (new_any lim _ hl0 hl1 B).mono ?_
  rintro e w1 ⟨rfl, hk1, hb1⟩
  rw [HG.out] at hk1 hb1 ⊢
  have hs1 : B ≤ w1.heap.size := Nat.le_trans hs0 hb1.size
  go_wp2_with fail
  refine (awake_any _).mono ?_
  rintro e w3 ⟨rfl, hm3⟩
  have hk3 := hk1.below hm3
  have hb3 := hb1.trans (hm3.mono hs1)
  clear hk1 hb1 hs1 hm3
  go_wp2_with fail
  go_loopw [7, 8, 9, 10] (fun vs vc vw i wr => ∃ (k : Nat) (S : ByteArray) (came went : Int), k ≤ n ∧ k ≤ 80 ∧ i = .int .i64 k ∧ vs = .string S ∧ vc = .int .i64 came ∧ vw = .int .i64 went ∧ Rel2 B lim w k S came went wr) (fun _ _ _ i _ => n - (intOf i).toNat)
  case atStart => exact ⟨0, ⟨#[]⟩, 0, 0, Nat.zero_le _, Nat.zero_le _, rfl, rfl, rfl, rfl, hl0, by omega, by omega, by omega, by decide, hk3, hb3⟩
  case round =>
    clear hb0 hk3 hb3 hs0
    obtain ⟨k, S, came, went, hk, hk80, rfl, rfl, rfl, rfl, hS, hc0, hc1, hw0, hsum, hlink, hbel⟩ := hrel
    have hin : k < n ∧ k < 80 ∨ ¬ (k < n ∧ k < 80) := by omega
    have hsz : B ≤ wr.heap.size := by rw [← HG.out]; exact hbel.size
    have hlen : S.data.toList.length = S.size := size_toList S
    rcases hin with ⟨hlt, h80⟩ | hout
    · obtain ⟨b, off, rfl, hbw, hcell⟩ := HE.out (by omega)
      obtain ⟨v0, c0, kd, rfl, wk⟩ := hcell k hlt 0 _ rfl
      obtain ⟨v1, c1, m, rfl, wm⟩ := hcell k hlt 1 _ rfl
      obtain ⟨v2, c2, s, rfl, ws⟩ := hcell k hlt 2 _ rfl
      clear hcell wk wm ws
      rw [← hbel.cell (p := ⟨b, _, none⟩) (by rw [← HG.out]; exact hbw)] at c0 c1 c2
      have d0 : wr.cell? ⟨b, off + k * 3, none⟩ = some (.int .i64 kd) := c0
      have d1 : wr.cell? ⟨b, off + k * 3 + 1, none⟩ = some (.int .i64 m) := c1
      have d2 : wr.cell? ⟨b, off + k * 3 + 2, none⟩ = some (.string s) := c2
      have hlb := hlink.lt
      clear c0 c1 c2 hbw
      have hbelA : ∀ o, Below B w (wr.alloc o) := fun o => hbel.alloc hsz o
      have hlinkA : ∀ o, LinkAt (wr.alloc o) B B lim came went S.data.toList := fun o => hlink.below ((Below.refl _ _).alloc (Nat.le_refl _) o)
      have hszA : ∀ o, B ≤ (wr.alloc o).heap.size := fun o => by simp; omega
      have HBEL := Lib.hid hbel
      clear hbel
      have HL := Lib.hid hlink
      clear hlink
      have HBA := Lib.hid hbelA
      clear hbelA
      have HLA := Lib.hid hlinkA
      clear hlinkA
      have HSA := Lib.hid hszA
      clear hszA
      have HLEN := Lib.hid hlen
      clear hlen
      by_cases hbig : 2000 < s.size
      · skip
        have HSUM := Lib.hid hsum
        clear hsum
        go_wp2_with fail
        go_roundw
        case rel => exact ⟨k + 1, S, came, went, by omega, by omega, by go_num, rfl, rfl, rfl, hS, hc0, by omega, hw0, HSUM.out, HLA.out _, HBA.out _⟩
        case measure => simp [intOf]; omega
      · have hkd : kd = 3 ∨ kd = 4 ∨ kd = 5 ∨ (kd ≠ 3 ∧ kd ≠ 4 ∧ kd ≠ 5) := by omega
        rcases hkd with rfl | rfl | rfl | ⟨n3, n4, n5⟩
        · obtain ⟨j, hj⟩ : ∃ j : Nat, (j : Int) = max (min m S.size) 0 := ⟨(max (min m S.size) 0).toNat, by omega⟩
          have hj2 : j ≤ S.size := by omega
          obtain ⟨T, hT⟩ : ∃ T : ByteArray, T = ⟨(S.data.toList.take j).toArray⟩ := ⟨_, rfl⟩
          have hT1 : T.size = j := by rw [← size_toList, hT]; show (S.data.toList.take j).length = j; rw [List.length_take, HLEN.out]; omega
          have hT2 : T.size ≤ S.size := by omega
          have hj' : (j : Int) = max (min m (S.data.toList.length : Int)) 0 := by rw [HLEN.out]; exact hj
          have hsum2 : came = (went + T.size) + (S.extract T.size S.size).size := by
            rw [size_cut]; omega
          have hS2 : ((S.extract T.size S.size).size : Int) ≤ lim := by
            rw [size_cut]; omega
          have hwb : went + S.size ≤ 160000 := by omega
          have HSUM := Lib.hid hsum
          clear hsum
          have HSUM2 := Lib.hid hsum2
          clear hsum2
          have HS2 := Lib.hid hS2
          clear hS2
          have HJ := Lib.hid hj
          clear hj
          have HJ2 := Lib.hid hj'
          clear hj'
          have HT := Lib.hid hT
          clear hT
          have HT1 := Lib.hid hT1
          clear hT1
          go_wp2_with fail
          refine (first_any S m j HJ.out _).mono ?_
          rintro e wx ⟨rfl, rfl⟩
          rw [← HT.out]
          go_wp2_with fail
          refine (pull_any B B lim came went (went + T.size) m j _ HJ2.out (by rw [HT1.out]) hw0 (by have := HSUM.out; omega) (by rw [HLEN.out]; omega) _ (HLA.out _)).mono ?_
          rintro e w4 ⟨rfl, hk4, hg4⟩
          rw [← HT.out]
          have hb4 := below_only (HBA.out _) hg4 (Nat.le_refl _) (HSA.out _)
          have hk5 : LinkAt w4 B B lim came (went + T.size) (S.extract T.size S.size).data.toList := by rw [extract_drop, HT1.out]; rw [HT1.out] at hk4; exact hk4
          clear d0 d1 d2 hk4 hg4
          have HB4 := Lib.hid hb4
          clear hb4
          have HK5 := Lib.hid hk5
          clear hk5
          go_wp2_with fail
          generalize S.extract T.size S.size = S2 at HK5 HSUM2 HS2 ⊢
          have hU : 0 ≤ went + (T.size : Int) := by omega
          generalize went + (T.size : Int) = U at HK5 HSUM2 hU ⊢
          have hq1 : (came != U + S2.size) = false := by have := HSUM2.out; simp; omega
          have hq2 : U + S2.size ≤ 160000 := by have := HSUM2.out; omega
          have hkeep : (S2.size : Int) ≤ lim ∧ 0 ≤ came ∧ came ≤ 2000 * ((k + 1 : Nat) : Int) := ⟨HS2.out, hc0, by omega⟩
          have HKEEP := Lib.hid hkeep
          clear hkeep
          clear hS hc0 hc1 hT2 hj2 hbig hw0 hlb hwb
          refine (total_any B B lim came _ _ _ HK5.out).mono ?_
          rintro e w5 ⟨rfl, nd, rfl⟩
          go_wp2_with fail
          refine (len_any B B lim came _ _ (S2.size : Int) (by rw [size_toList]) _ (HK5.out.draw nd)).mono ?_
          rintro e w6 ⟨rfl, rfl⟩
          go_wp2_with fail
          go_roundw
          case rel => exact ⟨k + 1, S2, came, U, by omega, by omega, by go_num, rfl, rfl, rfl, HKEEP.out.1, HKEEP.out.2.1, HKEEP.out.2.2, hU, HSUM2.out, HK5.out.draw nd, below_drewN HB4.out nd⟩
          case measure => simp [intOf]; omega
        · obtain ⟨j, hj⟩ : ∃ j : Nat, (j : Int) = max (min m S.size) 0 := ⟨(max (min m S.size) 0).toNat, by omega⟩
          have hj2 : j ≤ S.size := by omega
          obtain ⟨T, hT⟩ : ∃ T : ByteArray, T = ⟨(S.data.toList.take j).toArray⟩ := ⟨_, rfl⟩
          have hT1 : T.size = j := by rw [← size_toList, hT]; show (S.data.toList.take j).length = j; rw [List.length_take, HLEN.out]; omega
          have hT2 : T.size ≤ S.size := by omega
          have hj' : (j : Int) = max (min m (S.data.toList.length : Int)) 0 := by rw [HLEN.out]; exact hj
          have hsum2 : came = (went + T.size) + (S.extract T.size S.size).size := by
            rw [size_cut]; omega
          have hS2 : ((S.extract T.size S.size).size : Int) ≤ lim := by
            rw [size_cut]; omega
          have hwb : went + S.size ≤ 160000 := by omega
          have HSUM := Lib.hid hsum
          clear hsum
          have HSUM2 := Lib.hid hsum2
          clear hsum2
          have HS2 := Lib.hid hS2
          clear hS2
          have HJ := Lib.hid hj
          clear hj
          have HJ2 := Lib.hid hj'
          clear hj'
          have HT := Lib.hid hT
          clear hT
          have HT1 := Lib.hid hT1
          clear hT1
          go_wp2_with fail
          refine (first_any S m j HJ.out _).mono ?_
          rintro e wx ⟨rfl, rfl⟩
          rw [← HT.out]
          go_wp2_with fail
          refine (pull_any B B lim came went (went + T.size) m j _ HJ2.out (by rw [HT1.out]) hw0 (by have := HSUM.out; omega) (by rw [HLEN.out]; omega) _ (HLA.out _)).mono ?_
          rintro e w4 ⟨rfl, hk4, hg4⟩
          rw [← HT.out]
          have hb4 := below_only (HBA.out _) hg4 (Nat.le_refl _) (HSA.out _)
          have hk5 : LinkAt w4 B B lim came (went + T.size) (S.extract T.size S.size).data.toList := by rw [extract_drop, HT1.out]; rw [HT1.out] at hk4; exact hk4
          clear d0 d1 d2 hk4 hg4
          have HB4 := Lib.hid hb4
          clear hb4
          have HK5 := Lib.hid hk5
          clear hk5
          go_wp2_with fail
          generalize S.extract T.size S.size = S2 at HK5 HSUM2 HS2 ⊢
          have hU : 0 ≤ went + (T.size : Int) := by omega
          generalize went + (T.size : Int) = U at HK5 HSUM2 hU ⊢
          have hq1 : (came != U + S2.size) = false := by have := HSUM2.out; simp; omega
          have hq2 : U + S2.size ≤ 160000 := by have := HSUM2.out; omega
          have hkeep : (S2.size : Int) ≤ lim ∧ 0 ≤ came ∧ came ≤ 2000 * ((k + 1 : Nat) : Int) := ⟨HS2.out, hc0, by omega⟩
          have HKEEP := Lib.hid hkeep
          clear hkeep
          clear hS hc0 hc1 hT2 hj2 hbig hw0 hlb hwb
          refine (total_any B B lim came _ _ _ HK5.out).mono ?_
          rintro e w5 ⟨rfl, nd, rfl⟩
          go_wp2_with fail
          refine (len_any B B lim came _ _ (S2.size : Int) (by rw [size_toList]) _ (HK5.out.draw nd)).mono ?_
          rintro e w6 ⟨rfl, rfl⟩
          go_wp2_with fail
          go_roundw
          case rel => exact ⟨k + 1, S2, came, U, by omega, by omega, by go_num, rfl, rfl, rfl, HKEEP.out.1, HKEEP.out.2.1, HKEEP.out.2.2, hU, HSUM2.out, HK5.out.draw nd, below_drewN HB4.out nd⟩
          case measure => simp [intOf]; omega
        · by_cases hfit : (S.size : Int) + s.size ≤ lim
          · have hr : true = decide ((S.size : Int) + s.size ≤ lim) := by simp; omega
            have hok : (S.data.toList.length : Int) ≤ lim := by rw [HLEN.out]; omega
            have hok2 : (s.size : Int) ≤ lim - (S.data.toList.length : Int) := by rw [HLEN.out]; omega
            have hsum2 : came + s.size = went + (s ++ S).size := by rw [ByteArray.size_append]; omega
            have hS2 : ((s ++ S).size : Int) ≤ lim := by rw [ByteArray.size_append]; omega
            have hcb : came ≤ 1099511627776 := by omega
            have hU : 0 ≤ came + (s.size : Int) := by omega
            have hc2 : came + (s.size : Int) ≤ 2000 * ((k + 1 : Nat) : Int) := by omega
            have HSUM := Lib.hid hsum
            clear hsum
            have HSUM2 := Lib.hid hsum2
            clear hsum2
            have HS2 := Lib.hid hS2
            clear hS2
            have HR := Lib.hid hr
            clear hr
            go_wp2_with fail
            refine (ahead_ok B B lim came went (came + s.size) _ s rfl hl0 hl1 hok hok2 hc0 hcb _ (HSA.out _) (HLA.out _)).mono ?_
            rintro e w4 ⟨rfl, hk4, hg4⟩
            have e0 : w4.cell? ⟨wr.heap.size, 0, none⟩ = some (.int .i64 5) := by rw [only_cell hg4 (by simp) (by simp; omega)]; go_simp
            have e2 : w4.cell? ⟨wr.heap.size, 2, none⟩ = some (.string s) := by rw [only_cell hg4 (by simp) (by simp; omega)]; go_simp
            have hb4 := below_only (HBA.out _) hg4 (Nat.le_refl _) (HSA.out _)
            have hk5 : LinkAt w4 B B lim (came + s.size) went (s ++ S).data.toList := by rw [toList_app]; exact hk4
            clear d0 d1 d2 hk4 hg4 hok hok2
            have HB4 := Lib.hid hb4
            clear hb4
            have HK5 := Lib.hid hk5
            clear hk5
            go_wp2_with fail
            refine (fits_any _ _ _ true HR.out ⟨by omega, by omega⟩ _).mono ?_
            rintro e w6 ⟨rfl, rfl⟩
            go_wp2_with fail
            generalize s ++ S = S2 at HK5 HSUM2 HS2 ⊢
            generalize came + (s.size : Int) = U at HK5 HSUM2 hU hc2 ⊢
            have hq1 : (U != went + S2.size) = false := by have := HSUM2.out; simp; omega
            have hq2 : went + S2.size ≤ 160000 := by have := HSUM2.out; omega
            have hkeep : (S2.size : Int) ≤ lim ∧ U ≤ 2000 * ((k + 1 : Nat) : Int) := ⟨HS2.out, hc2⟩
            have HKEEP := Lib.hid hkeep
            clear hkeep
            clear hS hc0 hc1 hbig hlb hfit hcb hc2
            refine (total_any B B lim _ _ _ _ HK5.out).mono ?_
            rintro e w5 ⟨rfl, nd, rfl⟩
            go_wp2_with fail
            refine (len_any B B lim _ _ _ (S2.size : Int) (by rw [size_toList]) _ (HK5.out.draw nd)).mono ?_
            rintro e w6 ⟨rfl, rfl⟩
            go_wp2_with fail
            go_roundw
            case rel => exact ⟨k + 1, S2, U, went, by omega, by omega, by go_num, rfl, rfl, rfl, HKEEP.out.1, hU, HKEEP.out.2, hw0, HSUM2.out, HK5.out.draw nd, below_drewN HB4.out nd⟩
            case measure => simp [intOf]; omega
          · have hr : false = decide ((S.size : Int) + s.size ≤ lim) := by simp; omega
            have hok : (S.data.toList.length : Int) ≤ lim := by rw [HLEN.out]; omega
            have hok2 : lim - (S.data.toList.length : Int) < s.size := by rw [HLEN.out]; omega
            have HSUM := Lib.hid hsum
            clear hsum
            have HR := Lib.hid hr
            clear hr
            go_wp2_with fail
            refine (ahead_full B B lim came went _ s hl0 hl1 hok hok2 _ (HLA.out _)).mono ?_
            rintro e w4 ⟨rfl, hk5, hg4⟩
            have e0 : w4.cell? ⟨wr.heap.size, 0, none⟩ = some (.int .i64 5) := by rw [only_cell hg4 (by simp) (by simp; omega)]; go_simp
            have e2 : w4.cell? ⟨wr.heap.size, 2, none⟩ = some (.string s) := by rw [only_cell hg4 (by simp) (by simp; omega)]; go_simp
            have hb4 := below_only (HBA.out _) hg4 (Nat.le_refl _) (HSA.out _)
            clear d0 d1 d2 hg4 hok hok2
            have HB4 := Lib.hid hb4
            clear hb4
            have HK5 := Lib.hid hk5
            clear hk5
            go_wp2_with fail
            refine (fits_any _ _ _ false HR.out ⟨by omega, by omega⟩ _).mono ?_
            rintro e w6 ⟨rfl, rfl⟩
            go_wp2_with fail
            have hq1 : (came != went + S.size) = false := by have := HSUM.out; simp; omega
            have hq2 : went + S.size ≤ 160000 := by have := HSUM.out; omega
            have hc2 : came ≤ 2000 * ((k + 1 : Nat) : Int) := by omega
            have HC2 := Lib.hid hc2
            clear hc2
            have HS := Lib.hid hS
            clear hS
            clear hc1 hbig hlb hfit
            refine (total_any B B lim _ _ _ _ HK5.out).mono ?_
            rintro e w5 ⟨rfl, nd, rfl⟩
            go_wp2_with fail
            refine (len_any B B lim _ _ _ (S.size : Int) (by rw [size_toList]) _ (HK5.out.draw nd)).mono ?_
            rintro e w6 ⟨rfl, rfl⟩
            go_wp2_with fail
            go_roundw
            case rel => exact ⟨k + 1, S, came, went, by omega, by omega, by go_num, rfl, rfl, rfl, HS.out, hc0, HC2.out, hw0, HSUM.out, HK5.out.draw nd, below_drewN HB4.out nd⟩
            case measure => simp [intOf]; omega
        · have z3 : (kd == 3) = false := by simp; omega
          have z4 : (kd == 4) = false := by simp; omega
          have z5 : (kd == 5) = false := by simp; omega
          clear n3 n4 n5
          by_cases hfit : (S.size : Int) + s.size ≤ lim
          · have hr : true = decide ((S.size : Int) + s.size ≤ lim) := by simp; omega
            have hok : (S.data.toList.length : Int) ≤ lim := by rw [HLEN.out]; omega
            have hok2 : (s.size : Int) ≤ lim - (S.data.toList.length : Int) := by rw [HLEN.out]; omega
            have hsum2 : came + s.size = went + (S ++ s).size := by rw [ByteArray.size_append]; omega
            have hS2 : ((S ++ s).size : Int) ≤ lim := by rw [ByteArray.size_append]; omega
            have hcb : came ≤ 1099511627776 := by omega
            have hU : 0 ≤ came + (s.size : Int) := by omega
            have hc2 : came + (s.size : Int) ≤ 2000 * ((k + 1 : Nat) : Int) := by omega
            have HSUM := Lib.hid hsum
            clear hsum
            have HSUM2 := Lib.hid hsum2
            clear hsum2
            have HS2 := Lib.hid hS2
            clear hS2
            have HR := Lib.hid hr
            clear hr
            go_wp2_with fail
            refine (push_ok B B lim came went (came + s.size) _ s rfl hl0 hl1 hok hok2 hc0 hcb _ (HSA.out _) (HLA.out _)).mono ?_
            rintro e w4 ⟨rfl, hk4, hg4⟩
            have e0 : w4.cell? ⟨wr.heap.size, 0, none⟩ = some (.int .i64 kd) := by rw [only_cell hg4 (by simp) (by simp; omega)]; go_simp
            have e2 : w4.cell? ⟨wr.heap.size, 2, none⟩ = some (.string s) := by rw [only_cell hg4 (by simp) (by simp; omega)]; go_simp
            have hb4 := below_only (HBA.out _) hg4 (Nat.le_refl _) (HSA.out _)
            have hk5 : LinkAt w4 B B lim (came + s.size) went (S ++ s).data.toList := by rw [toList_app]; exact hk4
            clear d0 d1 d2 hk4 hg4 hok hok2
            have HB4 := Lib.hid hb4
            clear hb4
            have HK5 := Lib.hid hk5
            clear hk5
            go_wp2_with fail
            refine (fits_any _ _ _ true HR.out ⟨by omega, by omega⟩ _).mono ?_
            rintro e w6 ⟨rfl, rfl⟩
            go_wp2_with fail
            generalize S ++ s = S2 at HK5 HSUM2 HS2 ⊢
            generalize came + (s.size : Int) = U at HK5 HSUM2 hU hc2 ⊢
            have hq1 : (U != went + S2.size) = false := by have := HSUM2.out; simp; omega
            have hq2 : went + S2.size ≤ 160000 := by have := HSUM2.out; omega
            have hkeep : (S2.size : Int) ≤ lim ∧ U ≤ 2000 * ((k + 1 : Nat) : Int) := ⟨HS2.out, hc2⟩
            have HKEEP := Lib.hid hkeep
            clear hkeep
            clear hS hc0 hc1 hbig hlb hfit hcb hc2
            refine (total_any B B lim _ _ _ _ HK5.out).mono ?_
            rintro e w5 ⟨rfl, nd, rfl⟩
            go_wp2_with fail
            refine (len_any B B lim _ _ _ (S2.size : Int) (by rw [size_toList]) _ (HK5.out.draw nd)).mono ?_
            rintro e w6 ⟨rfl, rfl⟩
            go_wp2_with fail
            go_roundw
            case rel => exact ⟨k + 1, S2, U, went, by omega, by omega, by go_num, rfl, rfl, rfl, HKEEP.out.1, hU, HKEEP.out.2, hw0, HSUM2.out, HK5.out.draw nd, below_drewN HB4.out nd⟩
            case measure => simp [intOf]; omega
          · have hr : false = decide ((S.size : Int) + s.size ≤ lim) := by simp; omega
            have hok : (S.data.toList.length : Int) ≤ lim := by rw [HLEN.out]; omega
            have hok2 : lim - (S.data.toList.length : Int) < s.size := by rw [HLEN.out]; omega
            have HSUM := Lib.hid hsum
            clear hsum
            have HR := Lib.hid hr
            clear hr
            go_wp2_with fail
            refine (push_full B B lim came went _ s hl0 hl1 hok hok2 _ (HLA.out _)).mono ?_
            rintro e w4 ⟨rfl, hk5, hg4⟩
            have e0 : w4.cell? ⟨wr.heap.size, 0, none⟩ = some (.int .i64 kd) := by rw [only_cell hg4 (by simp) (by simp; omega)]; go_simp
            have e2 : w4.cell? ⟨wr.heap.size, 2, none⟩ = some (.string s) := by rw [only_cell hg4 (by simp) (by simp; omega)]; go_simp
            have hb4 := below_only (HBA.out _) hg4 (Nat.le_refl _) (HSA.out _)
            clear d0 d1 d2 hg4 hok hok2
            have HB4 := Lib.hid hb4
            clear hb4
            have HK5 := Lib.hid hk5
            clear hk5
            go_wp2_with fail
            refine (fits_any _ _ _ false HR.out ⟨by omega, by omega⟩ _).mono ?_
            rintro e w6 ⟨rfl, rfl⟩
            go_wp2_with fail
            have hq1 : (came != went + S.size) = false := by have := HSUM.out; simp; omega
            have hq2 : went + S.size ≤ 160000 := by have := HSUM.out; omega
            have hc2 : came ≤ 2000 * ((k + 1 : Nat) : Int) := by omega
            have HC2 := Lib.hid hc2
            clear hc2
            have HS := Lib.hid hS
            clear hS
            clear hc1 hbig hlb hfit
            refine (total_any B B lim _ _ _ _ HK5.out).mono ?_
            rintro e w5 ⟨rfl, nd, rfl⟩
            go_wp2_with fail
            refine (len_any B B lim _ _ _ (S.size : Int) (by rw [size_toList]) _ (HK5.out.draw nd)).mono ?_
            rintro e w6 ⟨rfl, rfl⟩
            go_wp2_with fail
            go_roundw
            case rel => exact ⟨k + 1, S, came, went, by omega, by omega, by go_num, rfl, rfl, rfl, HS.out, hc0, HC2.out, hw0, HSUM.out, HK5.out.draw nd, below_drewN HB4.out nd⟩
            case measure => simp [intOf]; omega
    · have hR := hbel
      by_cases hlt : k < n
      · have h80 : ¬ k < 80 := by omega
        clear hout hsum hlink hlen
        go_wp2
        go_ret
        exact ⟨rfl, HG.out ▸ hbel⟩
      · clear hout hsum hlink hlen
        go_wp2
        go_ret
        exact ⟨rfl, HG.out ▸ hbel⟩

end Go.Proofs.Ytmjkfiadbllkfaa.LinkDoes
