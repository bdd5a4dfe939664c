import Derived.Test.YtdcdfhonkjmpeaaPickMap
namespace Go.Proofs.Ytdcdfhonkjmpeaa.Pick
open Go.ChangeShapes Go.WideShapes Go.ChangeAt Go.RowKit Go.Deep
set_option linter.unusedVariables false
open Go.Maps (Keyed)

theorem new_any (w : World) : Calls Try.prog 32 #[] w fun e w' => e = .returned (.pointer (some ⟨w.heap.size + 1, 0, none⟩)) ∧ Blk w' (w.heap.size + 1) 97 #[.map (some w.heap.size)] ∧ MapIs w' w.heap.size 0 (fun _ => 0) 0 ∧ Below w.heap.size w w' ∧ w'.heap.size = w.heap.size + 2 := by
  have hmm := @run_makeMap Try.prog
  have hm0 := World.ownsMap_made (H := Unit) w Try.prog 3 (plainElem Try.prog 3)
  have hb := Blk.new (w.alloc (.map #[] 0)) 97 #[.map (some w.heap.size)]
  have hsz : (w.alloc (.map #[] 0)).heap.size = w.heap.size + 1 := by simp
  rw [hsz] at hb
  have HB := Lib.hid (And.intro hm0 hb)
  clear hm0 hb
  go_enter Try.func32, Try.ntmps32
  go_wp2
  go_ret
  refine ⟨rfl, HB.out.2, ?_, ((Below.refl _ _).alloc (Nat.le_refl _) _).alloc (by simp) _, by simp⟩
  refine MapIs.kept (w := w.alloc (.map #[] 0)) (row := none) ⟨_, HB.out.1, fun i hi => rfl, fun i hi => by rfl, rfl⟩ (World.grownBy_alloc _ _ _) (by simp)

theorem weight_any (i x : Int) (b : Bool) (z : Int) (hz : z = max (min x 256) 1) (w : World) : Calls Try.prog 58 #[.agg #[.int .i64 i, .int .i64 x, .bool b]] w fun e w' => e = .returned (.int .i64 z) ∧ w' = w.alloc (.cells #[.int .i64 i, .int .i64 x, .bool b] 62) := by
  have hc : (256 < x ∧ z = 256) ∨ (¬ 256 < x ∧ 1 < x ∧ z = x) ∨ (¬ 256 < x ∧ ¬ 1 < x ∧ z = 1) := by omega
  have hk := (Blk.new w 62 #[.int .i64 i, .int .i64 x, .bool b]).cell 1
  clear hz
  rcases hc with ⟨h1, rfl⟩ | ⟨h1, h2, rfl⟩ | ⟨h1, h2, rfl⟩
  all_goals
    go_enter Try.func58, Try.ntmps58
    go_wp2
    all_goals
      go_ret
      first | exact ⟨rfl, rfl⟩ | (obtain rfl : x = 1 := (by omega); exact ⟨rfl, rfl⟩)

theorem charge_nil (i n : Int) (w : World) : Calls Try.prog 35 #[.pointer none, .int .i64 i, .int .i64 n] w fun e w' => e = .returned (.int .i64 1) ∧ w = w' := by
  go_enter Try.func35, Try.ntmps35
  go_wp2
  go_ret
  exact ⟨rfl, rfl⟩

theorem charge_bad (g : Nat) (i n : Int) (h : n < 1 ∨ 1024 < n) (w : World) : Calls Try.prog 35 #[.pointer (some ⟨g, 0, none⟩), .int .i64 i, .int .i64 n] w fun e w' => e = .returned (.int .i64 2) ∧ w = w' := by
  have hc : n < 1 ∨ (¬ n < 1 ∧ 1024 < n) := by omega
  clear h
  rcases hc with h | ⟨h, h2⟩
  all_goals
    go_enter Try.func35, Try.ntmps35
    go_wp2_with fail
    go_ret
    exact ⟨rfl, rfl⟩

/-- What a map says is within bounds. -/
def Bnd (f : Int → Int) : Prop := ∀ i, -1024 ≤ f i ∧ f i ≤ 1024
theorem Bnd.upd {f : Int → Int} (h : Bnd f) (i v : Int) : Bnd (upd f i (clamp v)) := by
  intro j
  unfold Pick.upd
  split
  · unfold clamp; split
    · omega
    · split <;> omega
  · exact h j

/-- set, whatever is left: how many have something. -/
def cntUpd (f : Int → Int) (i v : Int) (c : Nat) : Nat := if v = 0 then (if f i ≠ 0 then c - 1 else c) else if f i ≠ 0 then c else c + 1

theorem set_any (g b n c : Nat) (f : Int → Int) (i v : Int) (hi : Wf i) (hvw : Wf v) (hn : n < maxLen) (hcp : f i ≠ 0 → 0 < c) (w : World) (h : Blk w g 97 #[.map (some b)]) (hm : MapIs w b n f c) :
    Calls Try.prog 59 #[.pointer (some ⟨g, 0, none⟩), .int .i64 i, .int .i64 v] w fun e w' => e = .returned (.tuple #[]) ∧ MapIs w' b (n + 1) (upd f i (clamp v)) (cntUpd f i v c) ∧ w.grownBy w' (some b) := by
  by_cases hv : v = 0
  · subst hv
    refine (set_zero g b n c (cntUpd f i 0 c) f i hi ?_ w h hm).mono ?_
    · unfold cntUpd
      rw [if_pos rfl]
      by_cases h0 : f i = 0
      · simp [h0]
      · have := hcp h0
        simp [h0]; omega
    · rintro e w1 ⟨rfl, ⟨D, h1, h2⟩, hg⟩
      exact ⟨rfl, ⟨D, h1.mono (Nat.le_succ n), h2⟩, hg⟩
  · exact set_some g b n c (cntUpd f i v c) f i v hi hv hvw hn (by unfold cntUpd; rw [if_neg hv]) w h hm

theorem charge_ok (g b n c : Nat) (f : Int → Int) (i k : Int) (hi : Wf i) (h0 : 1 ≤ k) (h1 : k ≤ 1024) (hf : Bnd f) (hn : n < maxLen) (hcp : f i ≠ 0 → 0 < c) (w : World) (h : Blk w g 97 #[.map (some b)]) (hm : MapIs w b n f c) :
    Calls Try.prog 35 #[.pointer (some ⟨g, 0, none⟩), .int .i64 i, .int .i64 k] w fun e w' => e = .returned (.int .i64 0) ∧ MapIs w' b (n + 1) (upd f i (clamp (f i - k))) (cntUpd f i (f i - k) c) ∧ w.grownBy w' (some b) := by
  have n1 : ¬ k < 1 := by omega
  have n2 : ¬ 1024 < k := by omega
  have hb := hf i
  have hw : IntKind.i64.wrap (f i - k) = f i - k := IntWalk.i64_in _ (by omega)
  have hwf : Wf (f i - k) := by unfold Wf; simp [Lit.wf, IntKind.min, IntKind.max, IntKind.bits, IntKind.signed]; omega
  have HL := Lib.hid (left_any g b n c f i hi w h hm)
  have HS := Lib.hid (set_any g b n c f i (f i - k) hi hwf hn hcp w h hm)
  clear hm hb hwf h0 h1
  go_enter Try.func35, Try.ntmps35
  go_wp2_with fail
  refine HL.out.mono ?_
  rintro e w1 ⟨rfl, rfl⟩
  go_wp2_with fail
  refine HS.out.mono ?_
  rintro e w1 ⟨rfl, hm1, hg1⟩
  go_wp2_with fail
  go_ret
  exact ⟨rfl, hm1, hg1⟩

theorem forget_any (g b n c : Nat) (f : Int → Int) (i : Int) (t : Bool) (ht : t = decide (f i ≠ 0)) (hi : Wf i) (hn : n < maxLen) (hcp : f i ≠ 0 → 0 < c) (w : World) (h : Blk w g 97 #[.map (some b)]) (hm : MapIs w b n f c) :
    Calls Try.prog 41 #[.pointer (some ⟨g, 0, none⟩), .int .i64 i] w fun e w' => e = .returned (.bool t) ∧ MapIs w' b (n + 1) (upd f i 0) (cntUpd f i 0 c) ∧ w.grownBy w' (some b) := by
  have HL := Lib.hid (left_any g b n c f i hi w h hm)
  have HS := Lib.hid (set_any g b n c f i 0 hi (by unfold Wf; decide) hn hcp w h hm)
  by_cases h0 : f i = 0
  · obtain rfl : t = false := by rw [ht]; simp [h0]
    have hsame : upd f i 0 = f := by
      funext j
      unfold upd
      split
      · rename_i e; rw [e, h0]
      · rfl
    have hcs : cntUpd f i 0 c = c := by unfold cntUpd; simp [h0]
    have hmf : MapIs w b (n + 1) (upd f i 0) (cntUpd f i 0 c) := by
      rw [hsame, hcs]
      obtain ⟨D, h1, h2⟩ := hm
      exact ⟨D, h1.mono (Nat.le_succ n), h2⟩
    have HM := Lib.hid hmf
    clear hm hsame hcs hmf ht
    go_enter Try.func41, Try.ntmps41
    go_wp2_with fail
    refine HL.out.mono ?_
    rintro e w1 ⟨rfl, rfl⟩
    go_wp2_with fail
    go_ret
    exact ⟨rfl, HM.out, World.grownBy.refl _ _⟩
  · obtain rfl : t = true := by rw [ht]; simp [h0]
    clear hm ht
    go_enter Try.func41, Try.ntmps41
    go_wp2_with fail
    refine HL.out.mono ?_
    rintro e w1 ⟨rfl, rfl⟩
    go_wp2_with fail
    refine HS.out.mono ?_
    rintro e w1 ⟨rfl, hm1, hg1⟩
    go_wp2_with fail
    go_ret
    exact ⟨rfl, hm1, hg1⟩

theorem forget_nil (i : Int) (w : World) : Calls Try.prog 41 #[.pointer none, .int .i64 i] w fun e w' => e = .returned (.bool false) ∧ w = w' := by
  go_enter Try.func41, Try.ntmps41
  go_wp2_with fail
  refine (left_nil i _).mono ?_
  rintro e w1 ⟨rfl, rfl⟩
  go_wp2_with fail
  go_ret
  exact ⟨rfl, rfl⟩

theorem len_nil (w : World) : Calls Try.prog 43 #[.pointer none] w fun e w' => e = .returned (.int .i64 0) ∧ w = w' := by
  go_enter Try.func43, Try.ntmps43
  go_wp2
  go_ret
  exact ⟨rfl, rfl⟩

end Go.Proofs.Ytdcdfhonkjmpeaa.Pick
