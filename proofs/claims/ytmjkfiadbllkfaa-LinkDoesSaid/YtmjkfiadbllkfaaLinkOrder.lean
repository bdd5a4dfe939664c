import Derived.Test.YtmjkfiadbllkfaaLinkLaws
namespace Go.Proofs.Ytmjkfiadbllkfaa.LinkOrder
open Go.ChangeShapes Go.WideShapes Go.ChangeAt Go.RowKit Go.Deep
set_option linter.unusedVariables false
open Link LinkLaws

theorem size_toList (s : ByteArray) : s.data.toList.length = s.size := Array.length_toList
theorem only_cell {w w' : World} {g : Nat} (h : w.grownBy w' (some g)) {p : Addr} (h1 : p.block < w.heap.size) (h2 : p.block ≠ g) : w'.cell? p = w.cell? p :=
  World.cell?_of_block (h.block p.block h1 (fun e => h2 (by injection e)))

/-- What a round starts from: what was pulled, and what is there, are what was pushed. -/
def Rel (B : Nat) (w : World) (k : Nat) (I O : ByteArray) (wr : World) : Prop :=
  ∃ l : List UInt8, O.data.toList ++ l = I.data.toList ∧ I.size ≤ 2000 * k ∧ LinkAt wr B B 1048576 I.size O.size l ∧ Below B w wr

theorem Rel.push {B k : Nat} {w w' : World} {I O s : ByteArray} {l : List UInt8} (h1 : O.data.toList ++ l = I.data.toList) (h2 : I.size ≤ 2000 * k) (hs : s.size ≤ 2000)
    (h3 : LinkAt w' B B 1048576 ((I.size : Int) + s.size) O.size (l ++ s.data.toList)) (h4 : Below B w w') : Rel B w (k + 1) (I ++ s) O w' := by
  refine ⟨l ++ s.data.toList, by rw [toList_app, ← h1, List.append_assoc], by rw [ByteArray.size_append]; omega, ?_, h4⟩
  rw [ByteArray.size_append, Int.natCast_add]
  exact h3

theorem Rel.pull {B k j : Nat} {w w' : World} {I O T : ByteArray} {l : List UInt8} (h1 : O.data.toList ++ l = I.data.toList) (h2 : I.size ≤ 2000 * k) (hT : T.data.toList = l.take j) (hj : T.size = j)
    (h3 : LinkAt w' B B 1048576 I.size ((O.size : Int) + j) (l.drop j)) (h4 : Below B w w') : Rel B w (k + 1) I (O ++ T) w' := by
  refine ⟨l.drop j, by rw [toList_app, hT, List.append_assoc, List.take_append_drop, h1], by omega, ?_, h4⟩
  rw [ByteArray.size_append, hj, Int.natCast_add]
  exact h3

set_option maxRecDepth 100000 in
set_option maxHeartbeats 3200000 in
theorem walk (w : World) (A : Option Addr) (n c : Nat) (hn : n ≤ c) (hc : c ≤ maxLen) (he : Elems w A n [IsInt .i64, IsInt .i64, IsStr]) :
    Calls Try.prog 4 #[.slice A n c] w fun e w' => e = .returned (.bool true) ∧ Below w.heap.size w w' := by
  clear hc
  have HE := Lib.hid he
  clear he
  obtain ⟨B, hB⟩ : ∃ g, w.heap.size = g := ⟨_, rfl⟩
  have hb0 : Below B w w := Below.refl _ _
  have hs0 : B ≤ w.heap.size := by omega
  have HG := Lib.hid hB
  clear hB
  go_enter Try.func4, Try.ntmps4
  go_wp2_with fail
  refine (new_any 1048576 _ (by omega) (by omega) B).mono ?_
  rintro e w1 ⟨rfl, hk1, hb1⟩
  rw [HG.out] at hk1 hb1 ⊢
  have hs1 : B ≤ w1.heap.size := Nat.le_trans hs0 hb1.size
  go_wp2_with fail
  refine (awake_any _).mono ?_
  rintro e w3 ⟨rfl, hm3⟩
  have hk3 := hk1.below hm3
  have hb3 := hb1.trans (hm3.mono hs1)
  have hs3 : B ≤ w3.heap.size := Nat.le_trans hs0 hb3.size
  clear hk1 hb1 hs1 hm3
  go_wp2_with fail
  go_loopw [5, 6, 7] (fun vi vo i wr => ∃ (k : Nat) (I O : ByteArray), k ≤ n ∧ k ≤ 80 ∧ i = .int .i64 k ∧ vi = .string I ∧ vo = .string O ∧ Rel B w k I O wr) (fun _ _ i _ => n - (intOf i).toNat)
  case atStart => exact ⟨0, ⟨#[]⟩, ⟨#[]⟩, Nat.zero_le _, Nat.zero_le _, rfl, rfl, rfl, [], rfl, by decide, hk3, hb3⟩
  case round =>
    clear hb0 hk3 hb3 hs0 hs3
    obtain ⟨k, I, O, hk, hk80, rfl, rfl, rfl, l, hl, hI, hlink, hbel⟩ := hrel
    have hlen : O.size + l.length = I.size := by
      have := congrArg List.length hl
      rw [List.length_append, size_toList, size_toList] at this
      exact this
    have hin : k < n ∧ k < 80 ∨ ¬ (k < n ∧ k < 80) := by omega
    have hsz : B ≤ wr.heap.size := by rw [← HG.out]; exact hbel.size
    rcases hin with ⟨hlt, h80⟩ | hout
    · obtain ⟨b, off, rfl, hbw, hcell⟩ := HE.out (by omega)
      obtain ⟨v0, c0, kd, rfl, wk⟩ := hcell k hlt 0 _ rfl
      obtain ⟨v1, c1, m, rfl, wm⟩ := hcell k hlt 1 _ rfl
      obtain ⟨v2, c2, s, rfl, ws⟩ := hcell k hlt 2 _ rfl
      clear hcell wk wm ws
      rw [← hbel.cell (p := ⟨b, _, none⟩) (by rw [← HG.out]; exact hbw)] at c0 c1 c2
      have d0 : wr.cell? ⟨b, off + k * 3, none⟩ = some (.int .i64 kd) := c0
      have d1 : wr.cell? ⟨b, off + k * 3 + 1, none⟩ = some (.int .i64 m) := c1
      have d2 : wr.cell? ⟨b, off + k * 3 + 2, none⟩ = some (.string s) := c2
      have hbB : b < B := by rw [← HG.out]; exact hbw
      clear c0 c1 c2 hbw
      have HBEL := Lib.hid hbel
      clear hbel
      have HL := Lib.hid hlink
      clear hlink
      have HLL := Lib.hid hl
      clear hl
      obtain ⟨L, hL⟩ : ∃ L : Nat, l.length = L := ⟨_, rfl⟩
      rw [hL] at hlen
      have HLEN := Lib.hid hL
      clear hL
      have hLb : L ≤ I.size := by omega
      have HSUM := Lib.hid hlen
      clear hlen
      by_cases hbig : 2000 < s.size
      · go_wp2_with fail
        go_roundw
        case rel => exact ⟨k + 1, I, O, by omega, by omega, by go_num, rfl, rfl, l, HLL.out, by omega, HL.out, HBEL.out⟩
        case measure => simp [intOf]; omega
      · by_cases hkd : kd < 3
        · go_wp2_with fail
          refine (push_ok B B _ _ _ _ l s rfl (by omega) (by omega) (by rw [HLEN.out]; omega) (by rw [HLEN.out]; omega) (by omega) (by omega) _ hsz HL.out).mono ?_
          rintro e w4 ⟨rfl, hk4, hg4⟩
          have e0 : w4.cell? ⟨b, off + k * 3, none⟩ = some (.int .i64 kd) := by rw [only_cell hg4 (p := ⟨b, _, none⟩) (Nat.lt_of_lt_of_le hbB hsz) (by simp; omega)]; exact d0
          have e2 : w4.cell? ⟨b, off + k * 3 + 2, none⟩ = some (.string s) := by rw [only_cell hg4 (p := ⟨b, _, none⟩) (Nat.lt_of_lt_of_le hbB hsz) (by simp; omega)]; exact d2
          have hR : Rel B w (k + 1) (I ++ s) O w4 := Rel.push HLL.out hI (by omega) hk4 (below_only HBEL.out hg4 (Nat.le_refl _) hsz)
          clear d0 d1 d2 hk4 hg4
          have HR := Lib.hid hR
          clear hR
          go_wp2_with fail
          go_roundw
          case rel => exact ⟨k + 1, I ++ s, O, by omega, by omega, by go_num, rfl, rfl, HR.out⟩
          case measure => simp [intOf]; omega
        · obtain ⟨j, hj⟩ : ∃ j : Nat, (j : Int) = max (min m l.length) 0 := ⟨(max (min m l.length) 0).toNat, by omega⟩
          have hj2 : j ≤ L := by rw [HLEN.out] at hj; omega
          obtain ⟨T, hT⟩ : ∃ T : ByteArray, T = ⟨(l.take j).toArray⟩ := ⟨_, rfl⟩
          have hT1 : T.data.toList = l.take j := by rw [hT]
          have hT2 : T.size = j := by rw [← size_toList, hT1, List.length_take, HLEN.out]; omega
          have hT3 : T.size ≤ L := by omega
          have hO : O.size ≤ I.size := by have := HSUM.out; omega
          have HJ := Lib.hid hj
          clear hj
          have HT := Lib.hid hT
          clear hT
          have HT1 := Lib.hid hT1
          clear hT1
          have HT2 := Lib.hid hT2
          clear hT2
          go_wp2_with fail
          refine (pull_any B B _ _ _ _ m j l HJ.out rfl (by omega) (by omega) (by rw [HLEN.out]; omega) _ HL.out).mono ?_
          rintro e w4 ⟨rfl, hk4, hg4⟩
          rw [← HT.out]
          have hR : Rel B w (k + 1) I (O ++ T) w4 := Rel.pull HLL.out hI HT1.out HT2.out hk4 (below_only HBEL.out hg4 (Nat.le_refl _) hsz)
          clear d0 d1 d2 hk4 hg4
          have HR := Lib.hid hR
          clear hR
          go_wp2_with fail
          go_roundw
          case rel => exact ⟨k + 1, I, O ++ T, by omega, by omega, by go_num, rfl, rfl, HR.out⟩
          case measure => simp [intOf]; omega
    · obtain ⟨T, hT⟩ : ∃ T : ByteArray, T = ⟨(l.take l.length).toArray⟩ := ⟨_, rfl⟩
      have hT1 : T.data.toList = l := by rw [hT, List.take_length]
      have hT2 : T.size = l.length := by rw [← size_toList, hT1]
      have hO : O.size ≤ I.size := by omega
      have hTs : T.size ≤ I.size := by omega
      have hl2 : l.length ≤ 1048576 := by omega
      have hfin : ((O ++ T).toList == I.toList) = true := by
        rw [ByteArray.toList_eq, ByteArray.toList_eq, toList_app, hT1, hl]
        simp
      have hj : ((l.length : Nat) : Int) = max (min (1048576 : Int) (l.length : Int)) 0 := by omega
      have HJ := Lib.hid hj
      clear hj
      have HT := Lib.hid hT
      clear hT
      clear hT1 hT2 hl hlen
      have HL := Lib.hid hlink
      clear hlink
      have HL2 := Lib.hid hl2
      clear hl2
      have HBEL := Lib.hid hbel
      clear hbel
      by_cases hlt : k < n
      · have h80 : ¬ k < 80 := by omega
        clear hout
        go_wp2_with fail
        refine (pull_any B B _ _ _ _ 1048576 l.length l HJ.out rfl (by omega) (by omega) HL2.out _ HL.out).mono ?_
        rintro e w4 ⟨rfl, hk4, hg4⟩
        rw [← HT.out]
        have hb4 := below_only HBEL.out hg4 (Nat.le_refl _) hsz
        clear hk4 hg4
        go_wp2_with fail
        go_ret
        exact ⟨rfl, HG.out ▸ hb4⟩
      · clear hout
        go_wp2_with fail
        refine (pull_any B B _ _ _ _ 1048576 l.length l HJ.out rfl (by omega) (by omega) HL2.out _ HL.out).mono ?_
        rintro e w4 ⟨rfl, hk4, hg4⟩
        rw [← HT.out]
        have hb4 := below_only HBEL.out hg4 (Nat.le_refl _) hsz
        clear hk4 hg4
        go_wp2_with fail
        go_ret
        exact ⟨rfl, HG.out ▸ hb4⟩

end Go.Proofs.Ytmjkfiadbllkfaa.LinkOrder
