import Derived.Test.YtdcdfhonkjmpeaaPickAw
import Derived.Test.YtdcdfhonkjmpeaaPickDo
import Derived.Test.YtdcdfhonkjmpeaaKitZ
namespace Go.Proofs.Ytdcdfhonkjmpeaa.Pick
open Go.ChangeShapes Go.WideShapes Go.ChangeAt Go.RowKit Go.Deep
set_option linter.unusedVariables false

set_option maxRecDepth 100000 in
theorem next_nil (T : List Turn) (v : Value) (hw : ∀ t ∈ T, Wf t.1) (hT : T.length ≤ 5864062014805) (w : World) (hv : Turns w v T) :
    Calls Try.prog 34 #[.pointer none, v] w fun e w' => e = .returned (.tuple #[.int .i64 0, .bool false]) ∧ Below w.heap.size w w' := by
  have hbx := Blk.new w 58 #[.pointer none]
  have hal : Below w.heap.size w (w.alloc (.cells #[.pointer none] 58)) := (Below.refl _ _).alloc (Nat.le_refl _) _
  have hrd := ready_any T v hw hT _ (hv.below hal)
  have hsz : (w.alloc (.cells #[.pointer none] 58)).heap.size = w.heap.size + 1 := by simp
  obtain ⟨B, hB⟩ : ∃ B, w.heap.size = B := ⟨_, rfl⟩
  rw [hB] at hbx hal hsz
  rw [hsz] at hrd
  have H1 := Lib.hid (And.intro hrd (And.intro hbx hal))
  rw [hB]
  have HB := Lib.hid hB
  clear hB
  clear hrd hbx hal hv hw
  go_enter Try.func34, Try.ntmps34
  go_wp2_with fail
  rw [HB.out]
  refine H1.out.1.mono ?_
  rintro e w2 ⟨u, rfl, hown, hb2⟩
  have hx2 := H1.out.2.1.below hb2 (by omega)
  have d2 : w2.cell? ⟨B, 0, none⟩ = some (.pointer none) := hx2.cell 0
  obtain ⟨a2, k2, rfl⟩ := own_is_slice hown
  have HZ := Lib.hid (H1.out.2.2.trans (hb2.mono (by omega)))
  clear hown hb2 hx2 H1
  go_wp2_with fail
  go_ret2
  exact ⟨rfl, HZ.out⟩

/-- What bytes cost. -/
def costOf (n : Int) : Int := if n ≤ 16 then 1 else (n - 1) / 16 + 1
theorem cost_any (n : Int) (hn : Wf n) (w : World) : Calls Try.prog 48 #[.int .i64 n] w fun e w' => e = .returned (.int .i64 (costOf n)) ∧ w = w' := by
  have hb : -9223372036854775808 ≤ n ∧ n ≤ 9223372036854775807 := by
    unfold Wf at hn
    simp [Lit.wf, IntKind.min, IntKind.max, IntKind.bits, IntKind.signed] at hn
    omega
  clear hn
  unfold costOf
  by_cases h : n ≤ 16
  · rw [if_pos h]
    go_enter Try.func48, Try.ntmps48
    go_wp2_with fail
    go_ret
    exact ⟨rfl, rfl⟩
  · rw [if_neg h]
    have hw0 : IntKind.i64.wrap (n - 1) = n - 1 := IntWalk.i64_in _ (by omega)
    have hw1 : IntKind.i64.wrap ((n - 1) / 16) = (n - 1) / 16 := IntWalk.i64_in _ (by omega)
    have hw2 : IntKind.i64.wrap ((n - 1) / 16 + 1) = (n - 1) / 16 + 1 := IntWalk.i64_in _ (by omega)
    go_enter Try.func48, Try.ntmps48
    go_wp2_with fail
    go_ret
    exact ⟨rfl, rfl⟩

end Go.Proofs.Ytdcdfhonkjmpeaa.Pick
namespace Go.Proofs.Ytdcdfhonkjmpeaa.PickCosts
open Pick Go.ChangeShapes Go.WideShapes Go.ChangeAt Go.RowKit Go.Deep

set_option maxRecDepth 100000 in
set_option maxHeartbeats 3200000 in
theorem walk (w : World) (n : Int) (hn : (Lit.int .i64 n).wf = true) (ki : Int) (_ : (Lit.int .i64 ki).wf = true) (id : Int) (_ : (Lit.int .i64 id).wf = true) (am : Int) (_ : (Lit.int .i64 am).wf = true) (A : Option Addr) (m c : Nat) (hm : m ≤ c) (hc : c ≤ maxLen) (he : Elems w A m [IsInt .i64, IsInt .i64, IsBool]) (hz : m * 24 ≤ reachBytes) :
    Calls Try.prog 14 #[.int .i64 n, .agg #[.int .i64 ki, .int .i64 id, .int .i64 am, .slice A m c]] w fun e w' => e = .returned (.bool true) ∧ Below w.heap.size w w' := by
  obtain ⟨T, hT, hTw⟩ := turns_of ⟨A, m, c, rfl, hm, hc, he⟩
  have hT0 := hT
  obtain ⟨_, _, eT, _⟩ := hT
  have hmT : m = T.length := by injection eT
  clear eT
  have hb : -9223372036854775808 ≤ n ∧ n ≤ 9223372036854775807 := by
    simp [Lit.wf, IntKind.min, IntKind.max, IntKind.bits, IntKind.signed] at hn
    omega
  have hT8 : Turns w (.slice A m c) T := by
    obtain ⟨a1, c1, e1, h1⟩ := hT0
    exact ⟨a1, c1, e1, h1⟩
  have hlen : T.length ≤ 5864062014805 := by have := reachBytes_lt; omega
  have hal : Below w.heap.size w (w.alloc (.cells #[.int .i64 ki, .int .i64 id, .int .i64 am, .slice A m c] 73)) := (Below.refl _ _).alloc (Nat.le_refl _) _
  have hnx := next_nil T _ hTw hlen _ (hT8.below hal)
  have ha := Blk.new w 73 #[.int .i64 ki, .int .i64 id, .int .i64 am, .slice A m c]
  have hsA : (w.alloc (.cells #[.int .i64 ki, .int .i64 id, .int .i64 am, .slice A m c] 73)).heap.size = w.heap.size + 1 := by simp
  obtain ⟨B, hB⟩ : ∃ B, w.heap.size = B := ⟨_, rfl⟩
  rw [hB] at hal ha hsA ⊢
  rw [hsA] at hnx
  have HN := Lib.hid (And.intro hnx (And.intro hB (And.intro hal ha)))
  clear hnx hB hT0 hT8 hTw hmT he hz hc hlen hal ha
  have hcost := fun wx => cost_any n hn wx
  obtain ⟨q, hq⟩ : ∃ q, costOf n = q := ⟨_, rfl⟩
  rw [hq] at hcost
  have hcs : (n ≤ 16 ∧ q = 1) ∨ (16 < n ∧ n % 16 = 0 ∧ q = n / 16) ∨ (16 < n ∧ 0 < n % 16 ∧ q = n / 16 + 1) := by
    rw [← hq]
    unfold costOf
    split <;> omega
  have HCO := Lib.hid hcost
  clear hcost
  clear hq
  have hwq : IntKind.i64.wrap (n / 16) = n / 16 := IntWalk.i64_in _ (by omega)
  have hwq1 : IntKind.i64.wrap (n / 16 + 1) = n / 16 + 1 := IntWalk.i64_in _ (by omega)
  rcases hcs with ⟨h1, rfl⟩ | ⟨h1, h2, rfl⟩ | ⟨h1, h2, rfl⟩
  · clear hwq hwq1
    go_enter Try.func14, Try.ntmps14
    go_wp2_with fail
    rw [HN.out.2.1]
    refine HN.out.1.mono ?_
    rintro e w1 ⟨rfl, hb1⟩
    have ha1 := HN.out.2.2.2.below hb1 (by omega)
    have hbw := HN.out.2.2.1.trans (hb1.mono (by omega))
    have hs1 : B + 1 ≤ w1.heap.size := by have := hb1.size; omega
    have H1 := Lib.hid (And.intro ha1 hbw)
    clear ha1 hbw hb1
    go_wp2_with fail
    refine (awake_any w1).mono ?_
    rintro e w2 ⟨rfl, hb2⟩
    have ha2 := H1.out.1.below hb2 (by omega)
    have hbw2 := H1.out.2.trans (hb2.mono (by omega))
    have c1 : w2.cell? ⟨B, 1, none⟩ = some (.int .i64 id) := ha2.cell 1
    have c2 : w2.cell? ⟨B, 2, none⟩ = some (.int .i64 am) := ha2.cell 2
    have H2 := Lib.hid hbw2
    clear ha2 hbw2 hb2 H1
    go_wp2_with fail
    refine (HCO.out w2).mono ?_
    rintro e wx ⟨rfl, rfl⟩
    go_wp2_with fail
    refine (charge_nil _ _ w2).mono ?_
    rintro e wx ⟨rfl, rfl⟩
    go_wp2_with fail
    refine (left_nil _ w2).mono ?_
    rintro e wx ⟨rfl, rfl⟩
    go_wp2_with fail
    refine (len_nil w2).mono ?_
    rintro e wx ⟨rfl, rfl⟩
    go_wp2_with fail
    refine (forget_nil _ w2).mono ?_
    rintro e wx ⟨rfl, rfl⟩
    go_wp2_with fail
    go_ret
    exact ⟨rfl, H2.out⟩
  · clear hwq1
    go_enter Try.func14, Try.ntmps14
    go_wp2_with fail
    rw [HN.out.2.1]
    refine HN.out.1.mono ?_
    rintro e w1 ⟨rfl, hb1⟩
    have ha1 := HN.out.2.2.2.below hb1 (by omega)
    have hbw := HN.out.2.2.1.trans (hb1.mono (by omega))
    have hs1 : B + 1 ≤ w1.heap.size := by have := hb1.size; omega
    have H1 := Lib.hid (And.intro ha1 hbw)
    clear ha1 hbw hb1
    go_wp2_with fail
    refine (awake_any w1).mono ?_
    rintro e w2 ⟨rfl, hb2⟩
    have ha2 := H1.out.1.below hb2 (by omega)
    have hbw2 := H1.out.2.trans (hb2.mono (by omega))
    have c1 : w2.cell? ⟨B, 1, none⟩ = some (.int .i64 id) := ha2.cell 1
    have c2 : w2.cell? ⟨B, 2, none⟩ = some (.int .i64 am) := ha2.cell 2
    have H2 := Lib.hid hbw2
    clear ha2 hbw2 hb2 H1
    go_wp2_with fail
    refine (HCO.out w2).mono ?_
    rintro e wx ⟨rfl, rfl⟩
    go_wp2_with fail
    refine (charge_nil _ _ w2).mono ?_
    rintro e wx ⟨rfl, rfl⟩
    go_wp2_with fail
    refine (left_nil _ w2).mono ?_
    rintro e wx ⟨rfl, rfl⟩
    go_wp2_with fail
    refine (len_nil w2).mono ?_
    rintro e wx ⟨rfl, rfl⟩
    go_wp2_with fail
    refine (forget_nil _ w2).mono ?_
    rintro e wx ⟨rfl, rfl⟩
    go_wp2_with fail
    go_ret
    exact ⟨rfl, H2.out⟩
  · skip
    go_enter Try.func14, Try.ntmps14
    go_wp2_with fail
    rw [HN.out.2.1]
    refine HN.out.1.mono ?_
    rintro e w1 ⟨rfl, hb1⟩
    have ha1 := HN.out.2.2.2.below hb1 (by omega)
    have hbw := HN.out.2.2.1.trans (hb1.mono (by omega))
    have hs1 : B + 1 ≤ w1.heap.size := by have := hb1.size; omega
    have H1 := Lib.hid (And.intro ha1 hbw)
    clear ha1 hbw hb1
    go_wp2_with fail
    refine (awake_any w1).mono ?_
    rintro e w2 ⟨rfl, hb2⟩
    have ha2 := H1.out.1.below hb2 (by omega)
    have hbw2 := H1.out.2.trans (hb2.mono (by omega))
    have c1 : w2.cell? ⟨B, 1, none⟩ = some (.int .i64 id) := ha2.cell 1
    have c2 : w2.cell? ⟨B, 2, none⟩ = some (.int .i64 am) := ha2.cell 2
    have H2 := Lib.hid hbw2
    clear ha2 hbw2 hb2 H1
    go_wp2_with fail
    refine (HCO.out w2).mono ?_
    rintro e wx ⟨rfl, rfl⟩
    go_wp2_with fail
    refine (charge_nil _ _ w2).mono ?_
    rintro e wx ⟨rfl, rfl⟩
    go_wp2_with fail
    refine (left_nil _ w2).mono ?_
    rintro e wx ⟨rfl, rfl⟩
    go_wp2_with fail
    refine (len_nil w2).mono ?_
    rintro e wx ⟨rfl, rfl⟩
    go_wp2_with fail
    refine (forget_nil _ w2).mono ?_
    rintro e wx ⟨rfl, rfl⟩
    go_wp2_with fail
    go_ret
    exact ⟨rfl, H2.out⟩

end Go.Proofs.Ytdcdfhonkjmpeaa.PickCosts
