import Derived.Test.YtdcdfhonkjmpeaaPickSet
import Derived.Test.YtdcdfhonkjmpeaaPickN
namespace Go.Proofs.Ytdcdfhonkjmpeaa.Pick
open Go.ChangeShapes Go.WideShapes Go.ChangeAt Go.RowKit Go.Deep
set_option linter.unusedVariables false

theorem refweight_any (n : Int) (w : World) : Calls Try.prog 62 #[.int .i64 n] w fun e w' => e = .returned (.int .i64 (weightOf n)) ∧ w = w' := by
  have hlow : ∀ a b : Int, Calls Try.prog 64 #[.int .i64 a, .int .i64 b] w fun e w' => e = .returned (.int .i64 (min a b)) ∧ w = w' := by
    intro a b
    by_cases h : a < b
    · have hm : min a b = a := by omega
      rw [hm]
      go_enter Try.func64, Try.ntmps64
      go_wp2_with fail
      go_ret
      exact ⟨rfl, rfl⟩
    · have hm : min a b = b := by omega
      rw [hm]
      go_enter Try.func64, Try.ntmps64
      go_wp2_with fail
      go_ret
      exact ⟨rfl, rfl⟩
  have hhigh : ∀ a b : Int, Calls Try.prog 65 #[.int .i64 a, .int .i64 b] w fun e w' => e = .returned (.int .i64 (max a b)) ∧ w = w' := by
    intro a b
    by_cases h : b < a
    · have hm : max a b = a := by omega
      rw [hm]
      go_enter Try.func65, Try.ntmps65
      go_wp2_with fail
      go_ret
      exact ⟨rfl, rfl⟩
    · have hm : max a b = b := by omega
      rw [hm]
      go_enter Try.func65, Try.ntmps65
      go_wp2_with fail
      go_ret
      exact ⟨rfl, rfl⟩
  have hz : weightOf n = min (max n 1) 256 := by unfold weightOf; omega
  rw [hz]
  have HL := Lib.hid (And.intro hlow hhigh)
  clear hlow hhigh hz
  go_enter Try.func62, Try.ntmps62
  go_wp2_with fail
  refine (HL.out.2 _ _).mono ?_
  rintro e w1 ⟨rfl, rfl⟩
  go_wp2_with fail
  refine (HL.out.1 _ _).mono ?_
  rintro e w1 ⟨rfl, rfl⟩
  go_wp2_with fail
  go_ret
  exact ⟨rfl, rfl⟩

theorem below_own {w : World} {B z n : Nat} {e : TypeId} {v : Value} {xs : List Value} (h : w.ownsRow B e z v n xs) (d : Nat) : (w.drewN d).ownsRow B e z v n xs := h

set_option maxRecDepth 100000 in
set_option maxHeartbeats 3200000 in
theorem refready_any (T : List Turn) (v : Value) (hT : T.length ≤ 1000000) (w : World) (hv : Turns w v T) :
    Calls Try.prog 60 #[v] w fun e w' => ∃ u, e = .returned u ∧ w'.ownsRow w.heap.size 62 3 u (rdyTo T T.length).length (cellsT (rdyTo T T.length)) ∧ Below w.heap.size w w' := by
  obtain ⟨a, cp, rfl, hcp, hv3⟩ := hv
  obtain ⟨N, hN⟩ : ∃ N, T.length = N := ⟨_, rfl⟩
  obtain ⟨B, hB⟩ : ∃ B, w.heap.size = B := ⟨_, rfl⟩
  have hb0 : Below B w w := Below.refl _ _
  obtain ⟨i62, hi62, hz0, hz1, hz2⟩ := info_parts info62
  have HV := Lib.hid (And.intro hv3 (And.intro hN (And.intro hcp hb0)))
  rw [hN] at hT hcp ⊢
  rw [hB]
  have hs0 : B ≤ w.heap.size := by omega
  clear hv3 hN hb0
  have HB := Lib.hid hB
  clear hB
  go_enter Try.func60, Try.ntmps60
  go_wp2_with fail
  go_loopw [3, 4] (fun out i wr => ∃ j : Nat, j ≤ N ∧ i = .int .i64 j ∧ wr.ownsRow B 62 3 out (rdyTo T j).length (cellsT (rdyTo T j)) ∧ Below B w wr) (fun _ i _ => N - (intOf i).toNat)
  case atStart => exact ⟨0, Nat.zero_le _, rfl, World.ownsRow_nil _ _ _ _, HV.out.2.2.2⟩
  case round =>
    obtain ⟨j, hj, rfl, hown, hbel⟩ := hrel
    have hsr : B ≤ wr.heap.size := Nat.le_trans hs0 hbel.size
    rcases (show j < N ∨ j = N by omega) with hjn | hjn
    · have hTl := HV.out.2.1
      obtain ⟨t, ht⟩ : ∃ t, T[j]? = some t := ⟨T[j]'(by omega), List.getElem?_eq_getElem _⟩
      obtain ⟨b, off, rfl, hb, hc⟩ := HV.out.1 (by omega)
      have hcr : ∀ (m : Nat) (u : Turn), T[m]? = some u → wr.cell? ⟨b, off + m * 3, none⟩ = some (.int .i64 u.1) ∧ wr.cell? ⟨b, off + m * 3 + 1, none⟩ = some (.int .i64 u.2.1) ∧ wr.cell? ⟨b, off + m * 3 + 2, none⟩ = some (.bool u.2.2) := by
        intro m u hu
        have := hc m u hu
        rw [← HB.out] at hbel
        rw [hbel.cell (p := ⟨b, _, none⟩) hb, hbel.cell (p := ⟨b, _, none⟩) hb, hbel.cell (p := ⟨b, _, none⟩) hb]
        exact this
      obtain ⟨q0, q1, q2⟩ := hcr j t ht
      have hbelA := fun o => hbel.alloc hsr o
      have hold := hown.lt
      have hrl := rdyTo_len T j
      have HK := Lib.hid (And.intro hown (And.intro ht (And.intro hbel (And.intro hrl (And.intro hold (And.intro hbelA (And.intro hcr hTl)))))))
      clear hc hTl hown ht hbel hrl hold hbelA hcr
      obtain ⟨ti, tw, tr⟩ := t
      simp only at q0 q1 q2
      go_wp2_with fail
      go_loopw [5, 6] (fun tw k w2 => ∃ m : Nat, m ≤ j ∧ k = .int .i64 m ∧ tw = .bool (seenTo T m ti) ∧ ∃ d, w2 = wr.drewN d) (fun _ k _ => j - (intOf k).toNat)
      case atStart => exact ⟨0, Nat.zero_le _, rfl, by simp [seenTo], 0, rfl⟩
      case round =>
        obtain ⟨m, hm, rfl, rfl, d, rfl⟩ := hrel
        rcases (show m < j ∨ m = j by omega) with hmj | hmj
        · obtain ⟨u, hu⟩ : ∃ u, T[m]? = some u := ⟨T[m]'(by have := HK.out.2.2.2.2.2.2.2; omega), List.getElem?_eq_getElem _⟩
          have r0 := (HK.out.2.2.2.2.2.2.1 m u hu).1
          have hss := seen_succ hu ti
          have HS := Lib.hid hss
          clear hu hss
          obtain ⟨ui, uw, ur⟩ := u
          simp only at r0
          cases hs : seenTo T m ti with
          | true =>
            go_wp2_with fail
            go_quiet (fail)
            go_wp2_with fail
            go_roundw
            case rel => exact ⟨m + 1, by omega, by go_num, by rw [HS.out, hs]; split <;> rfl, _, rfl⟩
            case measure => simp [intOf]; omega
          | false =>
            by_cases he : ui = ti
            · subst he
              go_wp2_with fail
              go_quiet (fail)
              go_wp2_with fail
              go_roundw
              case rel => exact ⟨m + 1, by omega, by go_num, by rw [HS.out]; simp, _, rfl⟩
              case measure => simp [intOf]; omega
            · go_wp2_with fail
              go_quiet (fail)
              go_wp2_with fail
              go_roundw
              case rel => exact ⟨m + 1, by omega, by go_num, by rw [HS.out, if_neg (fun e => he e.symm), hs]; simp [he], _, rfl⟩
              case measure => simp [intOf]; omega
        · subst hmj
          have hown := below_own HK.out.1 d
          have hbd := below_drewN HK.out.2.2.1 d
          have hsd : B ≤ (wr.drewN d).heap.size := hsr
          have hbelA := fun o => hbd.alloc hsd o
          have HD := Lib.hid (And.intro hown (And.intro hbd hbelA))
          clear hown hbd hbelA
          cases hs : seenTo T m ti with
          | true =>
            cases tr with
            | false =>
              go_wp2_with fail
              go_roundw
              case rel => exact ⟨m + 1, by omega, by go_num, by rw [rdy_no HK.out.2.1 (by simp [hs])]; exact HD.out.1, HD.out.2.1⟩
              case measure => simp [intOf]; omega
            | true =>
              go_wp2_with fail
              go_roundw
              case rel => exact ⟨m + 1, by omega, by go_num, by rw [rdy_no HK.out.2.1 (by simp [hs])]; exact HD.out.1, HD.out.2.1⟩
              case measure => simp [intOf]; omega
          | false =>
            cases tr with
            | false =>
              go_wp2_with fail
              go_roundw
              case rel => exact ⟨m + 1, by omega, by go_num, by rw [rdy_no HK.out.2.1 (by simp)]; exact HD.out.1, HD.out.2.1⟩
              case measure => simp [intOf]; omega
            | true =>
              have hrl := HK.out.2.2.2.1
              have hnb := Blk.new (wr.drewN d) 62 #[.int .i64 ti, .int .i64 tw, .bool true]
              have HNB := Lib.hid hnb
              clear hnb
              go_wp2_with (at_builtin; refine wpList_append_own _ rfl _ _ 60 rfl B 62 i62 _ 3 24 und60 hi62 hz0 hz1 hz2 rfl (by decide) _ _ _ rfl (by exact HD.out.1.alloc _) ⟨wr.heap.size, 0, none⟩ 1 1 [.int .i64 ti, .int .i64 tw, .bool true] (by simp [Act.eval]) rfl (by exact three_cells HNB.out) (by simp [Value.oneCell']) (by unfold maxLen; omega) (by omega) (by simp; omega) ?_)
              intro v5 w5 hown5 hg5 hiff
              have hbel5 : Below B w w5 := (HD.out.2.2 _).grown hg5 (by simp; omega) (fun k hk => by have := (HD.out.1.lt k hk).1; omega)
              have hown6 : w5.ownsRow B 62 3 v5 (rdyTo T (m + 1)).length (cellsT (rdyTo T (m + 1))) := by
                rw [rdy_yes HK.out.2.1 ⟨hs, rfl⟩, List.length_append, cellsT_append]
                exact hown5
              have HR := Lib.hid (And.intro hown6 hbel5)
              clear hown5 hg5 hiff hbel5 hown6 HNB
              go_wp2_with fail
              go_roundw
              case rel => exact ⟨m + 1, by omega, by go_num, HR.out.1, HR.out.2⟩
              case measure => simp [intOf]; omega
    · subst hjn
      have HF := Lib.hid (And.intro hown hbel)
      clear hown hbel
      go_wp2_with fail
      go_ret
      exact ⟨_, rfl, HF.out.1, HF.out.2⟩

end Go.Proofs.Ytdcdfhonkjmpeaa.Pick
