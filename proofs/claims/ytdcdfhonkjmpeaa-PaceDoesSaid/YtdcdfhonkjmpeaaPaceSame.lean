import Derived.Test.YtdcdfhonkjmpeaaPaceLaws
namespace Go.Proofs.Ytdcdfhonkjmpeaa.PaceSame
open Go.ChangeShapes Go.WideShapes Go.ChangeAt Go.RowKit Go.Deep
set_option linter.unusedVariables false
open Pace PaceLaws

set_option maxRecDepth 100000 in
set_option maxHeartbeats 3200000 in
theorem same_any (B g gx : Nat) (c m r t u : Int) (h0 : 0 ≤ c) (h1 : c ≤ 2147483647) (hr : Small r) (ht : Small t) (hu : Small u) (w : World) (hd : Blk w g 93 (P.cells ⟨c, m, r, t, u⟩)) (hx : Blk w gx 55 (P.cells ⟨c, m, r, t, u⟩)) (hB : B ≤ g ∧ B ≤ gx) (hsz : B ≤ w.heap.size) :
    Calls Try.prog 44 #[.pointer (some ⟨g, 0, none⟩), .pointer (some ⟨gx, 0, none⟩)] w fun e w' => e = .returned (.bool true) ∧ Blk w' g 93 (P.cells ⟨c, m, r, t, u⟩) ∧ Blk w' gx 55 (P.cells ⟨c, m, r, t, u⟩) ∧ Below B w w' := by
  have hne : gx ≠ g := Blk.ne_ hx hd (by decide)
  have hlt := hx.lt
  obtain ⟨v, hv⟩ : ∃ v, v = Pace.due c r u := ⟨_, rfl⟩
  have hwr : IntKind.i64.wrap (r - u) = r - u := IntWalk.i64_in _ (by obtain ⟨a, b⟩ := hr; obtain ⟨a', b'⟩ := hu; omega)
  have hwt : IntKind.i64.wrap (t - u) = t - u := IntWalk.i64_in _ (by obtain ⟨a, b⟩ := ht; obtain ⟨a', b'⟩ := hu; omega)
  obtain ⟨hB1, hB2⟩ := hB
  have x1 : w.cell? ⟨gx, 1, none⟩ = some (.int .i64 m) := hx.cell 1
  have x2 : w.cell? ⟨gx, 2, none⟩ = some (.int .i64 r) := hx.cell 2
  have x3 : w.cell? ⟨gx, 3, none⟩ = some (.int .i64 t) := hx.cell 3
  have x4 : w.cell? ⟨gx, 4, none⟩ = some (.int .i64 u) := hx.cell 4
  have HV := Lib.hid hv
  clear hv
  have HNE := Lib.hid hne
  clear hne
  have HD := Lib.hid hd
  clear hd
  have HX := Lib.hid hx
  clear hx
  go_enter Try.func44, Try.ntmps44
  go_wp2_with fail
  go_region_held3 (fun w' => w'.cell? ⟨gx, 1, none⟩ = some (.int .i64 m) ∧ w'.cell? ⟨gx, 2, none⟩ = some (.int .i64 r) ∧ w'.cell? ⟨gx, 3, none⟩ = some (.int .i64 t) ∧ w'.cell? ⟨gx, 4, none⟩ = some (.int .i64 u)) (first | (go_simp; done) | exact ⟨q1, q2, q3, q4⟩)
    (first
      | (go_at_call 46; go_must (refine (due_any g c m r t u v HV.out h0 h1 hr hu _ (HD.out.drewN _)).mono ?_); rintro e w1 ⟨rfl, hk1, hg1⟩
         have hx1 := (HX.out.drewN _).grown hg1 (by intro e; injection e with e; exact HNE.out e)
         have q1 : w1.cell? ⟨gx, 1, none⟩ = some (.int .i64 m) := hx1.cell 1
         have q2 : w1.cell? ⟨gx, 2, none⟩ = some (.int .i64 r) := hx1.cell 2
         have q3 : w1.cell? ⟨gx, 3, none⟩ = some (.int .i64 t) := hx1.cell 3
         have q4 : w1.cell? ⟨gx, 4, none⟩ = some (.int .i64 u) := hx1.cell 4
         have hb1 := below_only (below_drewN (Below.refl B w) _) hg1 hB1 (by simpa using hsz)
         have HX1 := Lib.hid hx1
         have HK1 := Lib.hid hk1
         have HB1 := Lib.hid hb1
         clear hx1 hk1 hb1 hg1 x1 x2 x3 x4)
      | (go_at_call 53; go_must (refine (refdue_any gx c m r t u v HV.out h0 h1 hr hu _ (by first | exact HX1.out | exact HX1.out.drewN _ | exact (HX1.out.drewN _).drewN _ | exact ((HX1.out.drewN _).drewN _).drewN _)).mono ?_); rintro e w' ⟨rfl, nd, rfl⟩)
      | (go_at_call 37; go_must (refine (open_any g c m r t u hr hu _ (by first | exact HK1.out | exact HK1.out.drewN _ | exact (HK1.out.drewN _).drewN _ | exact ((HK1.out.drewN _).drewN _).drewN _)).mono ?_); rintro e w' ⟨rfl, nd, rfl⟩)
      | (go_at_call 29; go_must (refine (kept_any g c m r t u ht hu _ (by first | exact HK1.out | exact HK1.out.drewN _ | exact (HK1.out.drewN _).drewN _ | exact ((HK1.out.drewN _).drewN _).drewN _)).mono ?_); rintro e w' ⟨rfl, nd, rfl⟩)
      | (go_at_call 47; go_must (refine (granted_any g c m r t u _ (by first | exact HK1.out | exact HK1.out.drewN _ | exact (HK1.out.drewN _).drewN _ | exact ((HK1.out.drewN _).drewN _).drewN _)).mono ?_); rintro e w' ⟨rfl, rfl⟩)
      | (go_at_call 38; go_must (refine (most_any g c m r t u _ (by first | exact HK1.out | exact HK1.out.drewN _ | exact (HK1.out.drewN _).drewN _ | exact ((HK1.out.drewN _).drewN _).drewN _)).mono ?_); rintro e w' ⟨rfl, rfl⟩))
  go_wp2_with fail
  go_ret
  exact ⟨rfl, (by first | exact HK1.out | exact HK1.out.drewN _ | exact (HK1.out.drewN _).drewN _ | exact ((HK1.out.drewN _).drewN _).drewN _), (by first | exact HX1.out | exact HX1.out.drewN _ | exact (HX1.out.drewN _).drewN _ | exact ((HX1.out.drewN _).drewN _).drewN _), by first | exact below_drewN HB1.out _ | exact below_drewN (below_drewN HB1.out _) _ | exact below_drewN (below_drewN (below_drewN HB1.out _) _) _⟩

end Go.Proofs.Ytdcdfhonkjmpeaa.PaceSame
