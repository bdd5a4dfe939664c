import Derived.Test.YtebiidfpgdolnaaDoorMa
import Derived.Deep.RegionWith
namespace Go.Proofs.YtebiidfpgdolnaaDoor.Dmp
open Go.ChangeShapes Go.WideShapes Go.ChangeAt Go.RowKit Go.Deep
set_option linter.unusedVariables false
open Go.Lib
set_option linter.unusedSimpArgs false

theorem keepc {w w' : World} (h : Below w.heap.size w w') {g i : Nat} {v : Value} (hg : g < w.heap.size) (hc : w.cell? ⟨g, i, none⟩ = some v) : w'.cell? ⟨g, i, none⟩ = some v := (h.cell (p := ⟨g, i, none⟩) hg).trans hc
section
variable (ty st : Int) (en : Bool) (da : ByteArray) (ki on we : Int) (ex : Bool) (co la n : Int) (pv : Value)
def Box (w : World) (g : Nat) : Prop := (w.cell? ⟨g, 0, none⟩ = some (.int .i64 ty) ∧ w.cell? ⟨g, 1, none⟩ = some (.int .i64 st) ∧ w.cell? ⟨g, 2, none⟩ = some (.bool en) ∧ w.cell? ⟨g, 3, none⟩ = some (.string da) ∧ w.cell? ⟨g, 4, none⟩ = some (.int .i64 ki) ∧ w.cell? ⟨g, 5, none⟩ = some (.int .i64 on) ∧ w.cell? ⟨g, 6, none⟩ = some (.int .i64 we) ∧ w.cell? ⟨g, 7, none⟩ = some (.bool ex) ∧ w.cell? ⟨g, 8, none⟩ = some (.int .i64 co) ∧ w.cell? ⟨g, 9, none⟩ = some (.int .i64 la) ∧ w.cell? ⟨g, 10, none⟩ = some (.int .i64 n) ∧ w.cell? ⟨g, 11, none⟩ = some (pv))
theorem Box.of {w : World} {g : Nat} (h : Blk w g 26 #[.int .i64 ty, .int .i64 st, .bool en, .string da, .int .i64 ki, .int .i64 on, .int .i64 we, .bool ex, .int .i64 co, .int .i64 la, .int .i64 n, pv]) : Box ty st en da ki on we ex co la n pv w g :=
  ⟨h.cell 0, h.cell 1, h.cell 2, h.cell 3, h.cell 4, h.cell 5, h.cell 6, h.cell 7, h.cell 8, h.cell 9, h.cell 10, h.cell 11⟩
end

theorem list_iff (a b : ByteArray) : a.toList = b.toList ↔ a = b := by
  rw [ByteArray.toList_eq, ByteArray.toList_eq]
  exact ⟨fun h => ByteArray.ext (Array.ext' h), fun h => by rw [h]⟩
set_option maxRecDepth 100000 in
set_option maxHeartbeats 3200000 in
theorem bare_eq (ty st : Int) (en : Bool) (da : ByteArray) (ki on we : Int) (ex : Bool) (co la n : Int) (ty2 st2 : Int) (en2 : Bool) (da2 : ByteArray) (ki2 on2 we2 : Int) (ex2 : Bool) (co2 la2 n2 : Int) (w : World) : (binOp .eql 96 (.agg #[.int .i64 ty, .int .i64 st, .bool en, .string da, .int .i64 ki, .int .i64 on, .int .i64 we, .bool ex, .int .i64 co, .int .i64 la, .int .i64 n]) (.agg #[.int .i64 ty2, .int .i64 st2, .bool en2, .string da2, .int .i64 ki2, .int .i64 on2, .int .i64 we2, .bool ex2, .int .i64 co2, .int .i64 la2, .int .i64 n2])).run Tryd.prog w = .ok (.bool (decide (ty = ty2 ∧ st = st2 ∧ en = en2 ∧ da = da2 ∧ ki = ki2 ∧ on = on2 ∧ we = we2 ∧ ex = ex2 ∧ co = co2 ∧ la = la2 ∧ n = n2))) w := by
  go_simp
  simp only [list_iff]
  by_cases h0 : ty = ty2
  case neg => simp [h0]
  by_cases h1 : st = st2
  case neg => simp [h1]
  by_cases h2 : en = en2
  case neg => simp [h2]
  by_cases h3 : da = da2
  case neg => simp [h3]
  by_cases h4 : ki = ki2
  case neg => simp [h4]
  by_cases h5 : on = on2
  case neg => simp [h5]
  by_cases h6 : we = we2
  case neg => simp [h6]
  by_cases h7 : ex = ex2
  case neg => simp [h7]
  by_cases h8 : co = co2
  case neg => simp [h8]
  by_cases h9 : la = la2
  case neg => simp [h9]
  by_cases h10 : n = n2
  case neg => simp [h10]
  simp [h0, h1, h2, h3, h4, h5, h6, h7, h8, h9, h10]

set_option maxRecDepth 100000 in
set_option maxHeartbeats 3200000 in
theorem same_any (ty st : Int) (en : Bool) (da : ByteArray) (ki on we : Int) (ex : Bool) (co la n : Int) (pv : Value) (ps : List (Int × Int)) (ty2 st2 : Int) (en2 : Bool) (da2 : ByteArray) (ki2 on2 we2 : Int) (ex2 : Bool) (co2 la2 n2 : Int) (pv2 : Value) (ps2 : List (Int × Int)) (hn : ps.length ≤ 30000) (w : World) (h1 : Ps w pv ps) (h2 : Ps w pv2 ps2) (b0 bb : Bool) (hb0 : b0 = decide (ty = ty2 ∧ st = st2 ∧ en = en2 ∧ da = da2 ∧ ki = ki2 ∧ on = on2 ∧ we = we2 ∧ ex = ex2 ∧ co = co2 ∧ la = la2 ∧ n = n2)) (hbb : bb = (b0 && decide (ps = ps2))) :
    Calls Tryd.prog 41 #[.agg #[.int .i64 ty, .int .i64 st, .bool en, .string da, .int .i64 ki, .int .i64 on, .int .i64 we, .bool ex, .int .i64 co, .int .i64 la, .int .i64 n, pv], .agg #[.int .i64 ty2, .int .i64 st2, .bool en2, .string da2, .int .i64 ki2, .int .i64 on2, .int .i64 we2, .bool ex2, .int .i64 co2, .int .i64 la2, .int .i64 n2, pv2]] w fun e w' => e = .returned (.bool bb) ∧ Below w.heap.size w w' := by
  have hrun : ∀ w, (binOp .eql 96 (.agg #[.int .i64 ty, .int .i64 st, .bool en, .string da, .int .i64 ki, .int .i64 on, .int .i64 we, .bool ex, .int .i64 co, .int .i64 la, .int .i64 n]) (.agg #[.int .i64 ty2, .int .i64 st2, .bool en2, .string da2, .int .i64 ki2, .int .i64 on2, .int .i64 we2, .bool ex2, .int .i64 co2, .int .i64 la2, .int .i64 n2])).run Tryd.prog w = .ok (.bool b0) w := fun w => by rw [hb0]; exact bare_eq _ _ _ _ _ _ _ _ _ _ _ _ _ _ _ _ _ _ _ _ _ _ w
  clear hb0
  have hb0 : ∀ o p d, Below w.heap.size w (((w.alloc o).alloc p).drewN d) := fun o p d => below_drewN (((Below.refl _ w).alloc (Nat.le_refl _) o).alloc (by simp) p) d
  have hx1 : ∀ p d, Blk (((w.alloc (.cells #[.int .i64 ty, .int .i64 st, .bool en, .string da, .int .i64 ki, .int .i64 on, .int .i64 we, .bool ex, .int .i64 co, .int .i64 la, .int .i64 n, pv] 26)).alloc p).drewN d) w.heap.size 26 #[.int .i64 ty, .int .i64 st, .bool en, .string da, .int .i64 ki, .int .i64 on, .int .i64 we, .bool ex, .int .i64 co, .int .i64 la, .int .i64 n, pv] := fun p d => ((Blk.new w 26 #[.int .i64 ty, .int .i64 st, .bool en, .string da, .int .i64 ki, .int .i64 on, .int .i64 we, .bool ex, .int .i64 co, .int .i64 la, .int .i64 n, pv]).alloc p).drewN d
  have hx2 : ∀ o d, Blk (((w.alloc o).alloc (.cells #[.int .i64 ty2, .int .i64 st2, .bool en2, .string da2, .int .i64 ki2, .int .i64 on2, .int .i64 we2, .bool ex2, .int .i64 co2, .int .i64 la2, .int .i64 n2, pv2] 26)).drewN d) (w.heap.size + 1) 26 #[.int .i64 ty2, .int .i64 st2, .bool en2, .string da2, .int .i64 ki2, .int .i64 on2, .int .i64 we2, .bool ex2, .int .i64 co2, .int .i64 la2, .int .i64 n2, pv2] := fun o d => by
    have := (Blk.new (w.alloc o) 26 #[.int .i64 ty2, .int .i64 st2, .bool en2, .string da2, .int .i64 ki2, .int .i64 on2, .int .i64 we2, .bool ex2, .int .i64 co2, .int .i64 la2, .int .i64 n2, pv2]).drewN d
    rw [show (w.alloc o).heap.size = w.heap.size + 1 by simp] at this
    exact this
  have HX := Lib.hid (And.intro hb0 (And.intro hx1 (And.intro hx2 (And.intro h1 (And.intro h2 hbb)))))
  clear hb0 hx1 hx2 h1 h2 hbb
  cases b0 with
  | false =>
    go_enter Tryd.func41, Tryd.ntmps41
    go_wp2_with fail
    refine wp_region_held_drew (S := (fun w' => (w'.cell? ⟨w.heap.size, 0, none⟩ = some (.int .i64 ty) ∧ w'.cell? ⟨w.heap.size, 1, none⟩ = some (.int .i64 st) ∧ w'.cell? ⟨w.heap.size, 2, none⟩ = some (.bool en) ∧ w'.cell? ⟨w.heap.size, 3, none⟩ = some (.string da) ∧ w'.cell? ⟨w.heap.size, 4, none⟩ = some (.int .i64 ki) ∧ w'.cell? ⟨w.heap.size, 5, none⟩ = some (.int .i64 on) ∧ w'.cell? ⟨w.heap.size, 6, none⟩ = some (.int .i64 we) ∧ w'.cell? ⟨w.heap.size, 7, none⟩ = some (.bool ex) ∧ w'.cell? ⟨w.heap.size, 8, none⟩ = some (.int .i64 co) ∧ w'.cell? ⟨w.heap.size, 9, none⟩ = some (.int .i64 la) ∧ w'.cell? ⟨w.heap.size, 10, none⟩ = some (.int .i64 n) ∧ w'.cell? ⟨w.heap.size, 11, none⟩ = some (pv)) ∧ (w'.cell? ⟨w.heap.size + 1, 0, none⟩ = some (.int .i64 ty2) ∧ w'.cell? ⟨w.heap.size + 1, 1, none⟩ = some (.int .i64 st2) ∧ w'.cell? ⟨w.heap.size + 1, 2, none⟩ = some (.bool en2) ∧ w'.cell? ⟨w.heap.size + 1, 3, none⟩ = some (.string da2) ∧ w'.cell? ⟨w.heap.size + 1, 4, none⟩ = some (.int .i64 ki2) ∧ w'.cell? ⟨w.heap.size + 1, 5, none⟩ = some (.int .i64 on2) ∧ w'.cell? ⟨w.heap.size + 1, 6, none⟩ = some (.int .i64 we2) ∧ w'.cell? ⟨w.heap.size + 1, 7, none⟩ = some (.bool ex2) ∧ w'.cell? ⟨w.heap.size + 1, 8, none⟩ = some (.int .i64 co2) ∧ w'.cell? ⟨w.heap.size + 1, 9, none⟩ = some (.int .i64 la2) ∧ w'.cell? ⟨w.heap.size + 1, 10, none⟩ = some (.int .i64 n2) ∧ w'.cell? ⟨w.heap.size + 1, 11, none⟩ = some (pv2)))) (by kernel_rfl) (⟨Box.of _ _ _ _ _ _ _ _ _ _ _ _ (HX.out.2.1 _ 1), Box.of _ _ _ _ _ _ _ _ _ _ _ _ (HX.out.2.2.1 _ 1)⟩) (fun hHeld => ?_)
    refine wpAnyH_take (i := 0) (v := ?vf0) rfl (by kernel_rfl) (by kernel_rfl) (by kernel_rfl) (fun _ _ _ h => h) (Or.inl ⟨by rfl, ?hyf0⟩) hHeld ?restf0
    case hyf0 => (intro w' hSw; (try dsimp only at hSw); go_simp; try with_reducible rfl)
    try simp only [Act.put, List.getElem_toArray, List.getElem_cons_zero, List.getElem_cons_succ, List.setIfInBounds_toArray, List.set_cons_zero, List.set_cons_succ]
    refine wpAnyH_take (i := 2) (v := ?vf2) rfl (by kernel_rfl) (by kernel_rfl) (by kernel_rfl) (fun _ _ _ h => h) (Or.inl ⟨by rfl, ?hyf2⟩) hHeld ?restf2
    case hyf2 => (intro w' hSw; (try dsimp only at hSw); go_simp; try with_reducible rfl)
    try simp only [Act.put, List.getElem_toArray, List.getElem_cons_zero, List.getElem_cons_succ, List.setIfInBounds_toArray, List.set_cons_zero, List.set_cons_succ]
    refine wpAnyH_ready (rs := [1]) (by kernel_rfl) (by simp) ?_
    refine AllReadyH.cons rfl (fun K hK => ?_) AllReadyH.nil
    go_simp
    refine (bared_any _ _ _ _ _ _ _ _ _ _ _ _ _).mono ?_
    rintro e1 w1 ⟨rfl, hm1⟩
    have k1 := And.intro ((HX.out.2.1 (.cells #[.int .i64 ty2, .int .i64 st2, .bool en2, .string da2, .int .i64 ki2, .int .i64 on2, .int .i64 we2, .bool ex2, .int .i64 co2, .int .i64 la2, .int .i64 n2, pv2] 26) 1).below hm1 (HX.out.2.1 (.cells #[.int .i64 ty2, .int .i64 st2, .bool en2, .string da2, .int .i64 ki2, .int .i64 on2, .int .i64 we2, .bool ex2, .int .i64 co2, .int .i64 la2, .int .i64 n2, pv2] 26) 1).lt) ((HX.out.2.2.1 (.cells #[.int .i64 ty, .int .i64 st, .bool en, .string da, .int .i64 ki, .int .i64 on, .int .i64 we, .bool ex, .int .i64 co, .int .i64 la, .int .i64 n, pv] 26) 1).below hm1 (HX.out.2.2.1 (.cells #[.int .i64 ty, .int .i64 st, .bool en, .string da, .int .i64 ki, .int .i64 on, .int .i64 we, .bool ex, .int .i64 co, .int .i64 la, .int .i64 n, pv] 26) 1).lt)
    have hbA : Below w.heap.size w w1 := (HX.out.1 (.cells #[.int .i64 ty, .int .i64 st, .bool en, .string da, .int .i64 ki, .int .i64 on, .int .i64 we, .bool ex, .int .i64 co, .int .i64 la, .int .i64 n, pv] 26) (.cells #[.int .i64 ty2, .int .i64 st2, .bool en2, .string da2, .int .i64 ki2, .int .i64 on2, .int .i64 we2, .bool ex2, .int .i64 co2, .int .i64 la2, .int .i64 n2, pv2] 26) 1).trans (hm1.mono (HX.out.1 (.cells #[.int .i64 ty, .int .i64 st, .bool en, .string da, .int .i64 ki, .int .i64 on, .int .i64 we, .bool ex, .int .i64 co, .int .i64 la, .int .i64 n, pv] 26) (.cells #[.int .i64 ty2, .int .i64 st2, .bool en2, .string da2, .int .i64 ki2, .int .i64 on2, .int .i64 we2, .bool ex2, .int .i64 co2, .int .i64 la2, .int .i64 n2, pv2] 26) 1).size)
    refine hK.out _ _ (⟨Box.of _ _ _ _ _ _ _ _ _ _ _ _ k1.1, Box.of _ _ _ _ _ _ _ _ _ _ _ _ k1.2⟩) (fun hHeld => ?_)
    clear hK K
    try simp only [Act.put, List.getElem_toArray, List.getElem_cons_zero, List.getElem_cons_succ, List.setIfInBounds_toArray, List.set_cons_zero, List.set_cons_succ]
    refine wpAnyH_ready (rs := [3]) (by kernel_rfl) (by simp) ?_
    refine AllReadyH.cons rfl (fun K hK => ?_) AllReadyH.nil
    go_simp
    refine (bared_any _ _ _ _ _ _ _ _ _ _ _ _ _).mono ?_
    rintro e1 w2 ⟨rfl, hm2⟩
    have k2 := And.intro (k1.1.below hm2 k1.1.lt) (k1.2.below hm2 k1.2.lt)
    have hbB : Below w.heap.size w w2 := hbA.trans (hm2.mono hbA.size)
    refine hK.out _ _ (⟨Box.of _ _ _ _ _ _ _ _ _ _ _ _ k2.1, Box.of _ _ _ _ _ _ _ _ _ _ _ _ k2.2⟩) (fun hHeld => ?_)
    clear hK K
    try simp only [Act.put, List.getElem_toArray, List.getElem_cons_zero, List.getElem_cons_succ, List.setIfInBounds_toArray, List.set_cons_zero, List.set_cons_succ]
    refine wpAnyH_take (i := 4) (v := ?vf4) rfl (by kernel_rfl) (by kernel_rfl) (by kernel_rfl) (fun _ _ _ h => h) (Or.inl ⟨by rfl, ?hyf4⟩) hHeld ?restf4
    case hyf4 => (intro w' hSw; (try dsimp only at hSw); go_simp; try with_reducible rfl)
    try simp only [Act.put, List.getElem_toArray, List.getElem_cons_zero, List.getElem_cons_succ, List.setIfInBounds_toArray, List.set_cons_zero, List.set_cons_succ]
    refine wpAnyH_take (i := 5) (v := ?vf5) rfl (by kernel_rfl) (by kernel_rfl) (by kernel_rfl) (fun _ _ _ h => h) (Or.inl ⟨by rfl, ?hyf5⟩) hHeld ?restf5
    case hyf5 => (intro w' hSw; (try dsimp only at hSw); go_simp; try with_reducible rfl)
    try simp only [Act.put, List.getElem_toArray, List.getElem_cons_zero, List.getElem_cons_succ, List.setIfInBounds_toArray, List.set_cons_zero, List.set_cons_succ]
    refine wpAnyH_take (i := 6) (v := undef) rfl (by kernel_rfl) (by kernel_rfl) (by kernel_rfl) (fun _ _ _ h => h) (Or.inr ⟨by rfl, rfl⟩) hHeld ?_
    try simp only [Act.put, List.getElem_toArray, List.getElem_cons_zero, List.getElem_cons_succ, List.setIfInBounds_toArray, List.set_cons_zero, List.set_cons_succ]
    refine wpAnyH_take (i := 8) (v := undef) rfl (by kernel_rfl) (by kernel_rfl) (by kernel_rfl) (fun _ _ _ h => h) (Or.inr ⟨by rfl, rfl⟩) hHeld ?_
    try simp only [Act.put, List.getElem_toArray, List.getElem_cons_zero, List.getElem_cons_succ, List.setIfInBounds_toArray, List.set_cons_zero, List.set_cons_succ]
    refine wpAnyH_take (i := 7) (v := undef) rfl (by kernel_rfl) (by kernel_rfl) (by kernel_rfl) (fun _ _ _ h => h) (Or.inr ⟨by rfl, rfl⟩) hHeld ?_
    try simp only [Act.put, List.getElem_toArray, List.getElem_cons_zero, List.getElem_cons_succ, List.setIfInBounds_toArray, List.set_cons_zero, List.set_cons_succ]
    refine wpAnyH_take (i := 9) (v := undef) rfl (by kernel_rfl) (by kernel_rfl) (by kernel_rfl) (fun _ _ _ h => h) (Or.inr ⟨by rfl, rfl⟩) hHeld ?_
    try simp only [Act.put, List.getElem_toArray, List.getElem_cons_zero, List.getElem_cons_succ, List.setIfInBounds_toArray, List.set_cons_zero, List.set_cons_succ]
    refine wpAnyH_take (i := 10) (v := undef) rfl (by kernel_rfl) (by kernel_rfl) (by kernel_rfl) (fun _ _ _ h => h) (Or.inr ⟨by rfl, rfl⟩) hHeld ?_
    try simp only [Act.put, List.getElem_toArray, List.getElem_cons_zero, List.getElem_cons_succ, List.setIfInBounds_toArray, List.set_cons_zero, List.set_cons_succ]
    refine wpAnyH_take (i := 11) (v := ?vf11) rfl (by kernel_rfl) (by kernel_rfl) (by kernel_rfl) (fun _ _ _ h => h) (Or.inl ⟨by rfl, ?hyf11⟩) hHeld ?restf11
    case hyf11 => (intro w' hSw; (try dsimp only at hSw); go_simp; try with_reducible rfl)
    try simp only [Act.put, List.getElem_toArray, List.getElem_cons_zero, List.getElem_cons_succ, List.setIfInBounds_toArray, List.set_cons_zero, List.set_cons_succ]
    refine wpAnyH_take (i := 12) (v := ?vf12) rfl (by kernel_rfl) (by kernel_rfl) (by kernel_rfl) (fun _ _ _ h => h) (Or.inl ⟨by rfl, ?hyf12⟩) hHeld ?restf12
    case hyf12 => (intro w' hSw; (try dsimp only at hSw); go_simp; try with_reducible rfl)
    try simp only [Act.put, List.getElem_toArray, List.getElem_cons_zero, List.getElem_cons_succ, List.setIfInBounds_toArray, List.set_cons_zero, List.set_cons_succ]
    refine wpAnyH_done (by kernel_rfl) ?_ _
    go_wp2_with fail
    go_ret
    exact ⟨(show Ending.returned (Value.bool false) = Ending.returned (Value.bool bb) from by rw [HX.out.2.2.2.2.2, Bool.false_and]), hbB⟩
  | true =>
    go_enter Tryd.func41, Tryd.ntmps41
    go_wp2_with fail
    first
      | go_region_held3 (fun w' => (w'.cell? ⟨w.heap.size, 0, none⟩ = some (.int .i64 ty) ∧ w'.cell? ⟨w.heap.size, 1, none⟩ = some (.int .i64 st) ∧ w'.cell? ⟨w.heap.size, 2, none⟩ = some (.bool en) ∧ w'.cell? ⟨w.heap.size, 3, none⟩ = some (.string da) ∧ w'.cell? ⟨w.heap.size, 4, none⟩ = some (.int .i64 ki) ∧ w'.cell? ⟨w.heap.size, 5, none⟩ = some (.int .i64 on) ∧ w'.cell? ⟨w.heap.size, 6, none⟩ = some (.int .i64 we) ∧ w'.cell? ⟨w.heap.size, 7, none⟩ = some (.bool ex) ∧ w'.cell? ⟨w.heap.size, 8, none⟩ = some (.int .i64 co) ∧ w'.cell? ⟨w.heap.size, 9, none⟩ = some (.int .i64 la) ∧ w'.cell? ⟨w.heap.size, 10, none⟩ = some (.int .i64 n) ∧ w'.cell? ⟨w.heap.size, 11, none⟩ = some (pv)) ∧ (w'.cell? ⟨w.heap.size + 1, 0, none⟩ = some (.int .i64 ty2) ∧ w'.cell? ⟨w.heap.size + 1, 1, none⟩ = some (.int .i64 st2) ∧ w'.cell? ⟨w.heap.size + 1, 2, none⟩ = some (.bool en2) ∧ w'.cell? ⟨w.heap.size + 1, 3, none⟩ = some (.string da2) ∧ w'.cell? ⟨w.heap.size + 1, 4, none⟩ = some (.int .i64 ki2) ∧ w'.cell? ⟨w.heap.size + 1, 5, none⟩ = some (.int .i64 on2) ∧ w'.cell? ⟨w.heap.size + 1, 6, none⟩ = some (.int .i64 we2) ∧ w'.cell? ⟨w.heap.size + 1, 7, none⟩ = some (.bool ex2) ∧ w'.cell? ⟨w.heap.size + 1, 8, none⟩ = some (.int .i64 co2) ∧ w'.cell? ⟨w.heap.size + 1, 9, none⟩ = some (.int .i64 la2) ∧ w'.cell? ⟨w.heap.size + 1, 10, none⟩ = some (.int .i64 n2) ∧ w'.cell? ⟨w.heap.size + 1, 11, none⟩ = some (pv2))) (first | exact ⟨Box.of _ _ _ _ _ _ _ _ _ _ _ _ k3.1, Box.of _ _ _ _ _ _ _ _ _ _ _ _ k3.2⟩ | exact ⟨Box.of _ _ _ _ _ _ _ _ _ _ _ _ k2.1, Box.of _ _ _ _ _ _ _ _ _ _ _ _ k2.2⟩ | exact ⟨Box.of _ _ _ _ _ _ _ _ _ _ _ _ k1.1, Box.of _ _ _ _ _ _ _ _ _ _ _ _ k1.2⟩ | exact ⟨Box.of _ _ _ _ _ _ _ _ _ _ _ _ (HX.out.2.1 _ 1), Box.of _ _ _ _ _ _ _ _ _ _ _ _ (HX.out.2.2.1 _ 1)⟩)
      (first
        | (go_at_call 64; go_must (refine (equal_any pv pv2 ps ps2 hn _ (HX.out.2.2.2.1.keep hbB.size fun i hi _ => hbB.block i hi) (HX.out.2.2.2.2.1.keep hbB.size fun i hi _ => hbB.block i hi)).mono ?_); rintro e1 w3 ⟨rfl, hm3⟩
           have k3 := And.intro (k2.1.below hm3 k2.1.lt) (k2.2.below hm3 k2.2.lt)
           have hbC : Below w.heap.size w w3 := hbB.trans (hm3.mono hbB.size))
        | (go_at_call 63; have k1' := k1; go_must (refine (bared_any _ _ _ _ _ _ _ _ _ _ _ _ _).mono ?_); rintro e1 w2 ⟨rfl, hm2⟩
           have k2 := And.intro (k1'.1.below hm2 k1'.1.lt) (k1'.2.below hm2 k1'.2.lt)
           have hbB : Below w.heap.size w w2 := hbA.trans (hm2.mono hbA.size)
           clear k1')
        | (go_at_call 63; go_must (refine (bared_any _ _ _ _ _ _ _ _ _ _ _ _ _).mono ?_); rintro e1 w1 ⟨rfl, hm1⟩
           have k1 := And.intro ((HX.out.2.1 (.cells #[.int .i64 ty2, .int .i64 st2, .bool en2, .string da2, .int .i64 ki2, .int .i64 on2, .int .i64 we2, .bool ex2, .int .i64 co2, .int .i64 la2, .int .i64 n2, pv2] 26) 1).below hm1 (HX.out.2.1 (.cells #[.int .i64 ty2, .int .i64 st2, .bool en2, .string da2, .int .i64 ki2, .int .i64 on2, .int .i64 we2, .bool ex2, .int .i64 co2, .int .i64 la2, .int .i64 n2, pv2] 26) 1).lt) ((HX.out.2.2.1 (.cells #[.int .i64 ty, .int .i64 st, .bool en, .string da, .int .i64 ki, .int .i64 on, .int .i64 we, .bool ex, .int .i64 co, .int .i64 la, .int .i64 n, pv] 26) 1).below hm1 (HX.out.2.2.1 (.cells #[.int .i64 ty, .int .i64 st, .bool en, .string da, .int .i64 ki, .int .i64 on, .int .i64 we, .bool ex, .int .i64 co, .int .i64 la, .int .i64 n, pv] 26) 1).lt)
           have hbA : Below w.heap.size w w1 := (HX.out.1 (.cells #[.int .i64 ty, .int .i64 st, .bool en, .string da, .int .i64 ki, .int .i64 on, .int .i64 we, .bool ex, .int .i64 co, .int .i64 la, .int .i64 n, pv] 26) (.cells #[.int .i64 ty2, .int .i64 st2, .bool en2, .string da2, .int .i64 ki2, .int .i64 on2, .int .i64 we2, .bool ex2, .int .i64 co2, .int .i64 la2, .int .i64 n2, pv2] 26) 1).trans (hm1.mono (HX.out.1 (.cells #[.int .i64 ty, .int .i64 st, .bool en, .string da, .int .i64 ki, .int .i64 on, .int .i64 we, .bool ex, .int .i64 co, .int .i64 la, .int .i64 n, pv] 26) (.cells #[.int .i64 ty2, .int .i64 st2, .bool en2, .string da2, .int .i64 ki2, .int .i64 on2, .int .i64 we2, .bool ex2, .int .i64 co2, .int .i64 la2, .int .i64 n2, pv2] 26) 1).size)))
    go_wp2_with fail
    go_ret
    exact ⟨congrArg (fun b => Ending.returned (Value.bool b)) (by rw [HX.out.2.2.2.2.2, Bool.true_and]), hbC⟩

end Go.Proofs.YtebiidfpgdolnaaDoor.Dmp

namespace Go.Proofs.YtebiidfpgdolnaaDoor.Dmp
open Go.ChangeShapes Go.WideShapes Go.ChangeAt Go.RowKit Go.Deep
set_option linter.unusedVariables false
open Go.Lib
set_option linter.unusedSimpArgs false

theorem four_any (n : Int) (w : World) : Calls Tryd.prog 22 #[.int .i64 n] w fun e w' => e = .returned (.bool (numB n)) ∧ w = w' := by
  unfold numB wiB
  by_cases h1 : 0 ≤ n <;> by_cases h2 : n ≤ 2147483647
  all_goals
    go_enter Tryd.func22, Tryd.ntmps22
    go_wp2
    go_ret
    exact ⟨by simp [h1, h2], rfl⟩
theorem rzero_any (k : Int) (w : World) : Calls Tryd.prog 23 #[.int .i64 k] w fun e w' => e = .returned (.bool (zeroB k)) ∧ w = w' := by
  unfold zeroB
  by_cases h1 : 5 ≤ k <;> by_cases h2 : k ≤ 10
  all_goals
    go_enter Tryd.func23, Tryd.ntmps23
    go_wp2
    go_ret
    exact ⟨by simp [h1, h2], rfl⟩
/-- One of the document: of a type that there is as the program's. -/
def oneR (k : Int) : Bool := decide (k ≤ 4) || decide (10 ≤ k)
theorem rone_any (k : Int) (w : World) : Calls Tryd.prog 24 #[.int .i64 k] w fun e w' => e = .returned (.bool (oneR k)) ∧ w = w' := by
  unfold oneR
  by_cases h1 : k ≤ 4 <;> by_cases h2 : 10 ≤ k
  all_goals
    go_enter Tryd.func24, Tryd.ntmps24
    go_wp2
    go_ret
    exact ⟨by simp [h1, h2], rfl⟩
def noneB (on we : Int) (ex : Bool) : Bool := decide (on = 0) && decide (we = 0) && !ex
theorem none_any (on we : Int) (ex : Bool) (w : World) : Calls Tryd.prog 25 #[.agg #[.int .i64 on, .int .i64 we, .bool ex]] w fun e w' => e = .returned (.bool (noneB on we ex)) ∧ Below w.heap.size w w' := by
  unfold noneB
  have hb : ∀ o, Below w.heap.size w (w.alloc o) := fun o => (Below.refl _ w).alloc (Nat.le_refl _) o
  have HB := Lib.hid hb
  clear hb
  by_cases h1 : on = 0 <;> by_cases h2 : we = 0 <;> cases ex
  all_goals
    have b1 : (on == 0) = decide (on = 0) := rfl
    have b2 : (we == 0) = decide (we = 0) := rfl
    simp only [h1, h2, decide_true, decide_false] at b1 b2
    go_enter Tryd.func25, Tryd.ntmps25
    go_wp2
    go_ret
    exact ⟨by simp [h1, h2], HB.out _⟩
theorem rdep_any (on we : Int) (ex : Bool) (w : World) : Calls Tryd.prog 26 #[.agg #[.int .i64 on, .int .i64 we, .bool ex]] w fun e w' => e = .returned (.bool (depB on we)) ∧ Below w.heap.size w w' := by
  unfold depB
  have hb : ∀ o, Below w.heap.size w (w.alloc o) := fun o => (Below.refl _ w).alloc (Nat.le_refl _) o
  have HB := Lib.hid hb
  clear hb
  cases hN : numB on
  all_goals
    have HN := Lib.hid hN
    clear hN
    unfold wiB
    rcases (show (1 ≤ we ∧ we ≤ 256) ∨ (¬ 1 ≤ we ∧ we ≤ 256) ∨ (1 ≤ we ∧ ¬ we ≤ 256) by omega) with ⟨h1, h2⟩ | ⟨h1, h2⟩ | ⟨h1, h2⟩
    all_goals
      go_enter Tryd.func26, Tryd.ntmps26
      go_wp2_with fail
      refine (four_any on _).mono ?_
      rintro e w1 ⟨rfl, rfl⟩
      rw [HN.out]
      go_wp2_with fail
      go_ret
      exact ⟨by simp [h1, h2], HB.out _⟩

/-- The settings that may be. -/
def parB (p : Int × Int) : Bool := wiB p.1 0 65535 && numB p.2
def fieldsB (f : Fr) : Bool :=
  if f.ty = 0 ∨ f.ty = 1 then decide (f.da.size ≤ 256)
  else if f.ty = 2 then (decide (f.ki = 1) || decide (f.ki = 2)) && depB f.on f.we
  else if f.ty = 3 then depB f.on f.we
  else if f.ty = 7 ∨ f.ty = 8 then decide (f.da.size = 8)
  else if f.ty = 5 then f.ps.all parB && decide (f.ps.length ≤ 8)
  else numB f.co && numB f.la && numB f.n

end Go.Proofs.YtebiidfpgdolnaaDoor.Dmp
