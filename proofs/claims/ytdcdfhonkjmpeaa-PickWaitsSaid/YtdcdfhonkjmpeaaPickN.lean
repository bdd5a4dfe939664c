import Derived.Test.YtdcdfhonkjmpeaaPickR
import Derived.Deep.RegionHeld3
namespace Go.Proofs.Ytdcdfhonkjmpeaa.Pick
open Go.ChangeShapes Go.WideShapes Go.ChangeAt Go.RowKit Go.Deep
set_option linter.unusedVariables false

theorem MapIs.alloc {w : World} {b n c : Nat} {f : Int → Int} (h : MapIs w b n f c) (o : Obj) : MapIs (w.alloc o) b n f c := h.below ((Below.refl _ _).alloc (Nat.le_refl _) _)

def weightOf (x : Int) : Int := max (min x 256) 1
theorem weightOf_pos (x : Int) : 1 ≤ weightOf x ∧ weightOf x ≤ 256 := by unfold weightOf; omega

set_option maxRecDepth 100000 in
set_option maxHeartbeats 6400000 in
theorem rounds_any (g mb n c bx : Nat) (f : Int → Int) (i x : Int) (b : Bool) (z q : Int) (hz : z = weightOf x) (hq : q = (z - f i).tdiv z) (hi : Wf i) (hf : Bnd f) (w : World) (hbx : Blk w bx 58 #[.pointer (some ⟨g, 0, none⟩)]) (h : Blk w g 97 #[.map (some mb)]) (hm : MapIs w mb n f c) :
    Calls Try.prog 57 #[.agg #[.int .i64 i, .int .i64 x, .bool b], .pointer (some ⟨bx, 0, none⟩)] w fun e w' => e = .returned (.int .i64 q) ∧ Below w.heap.size w w' := by
  have hzb := weightOf_pos x
  rw [← hz] at hzb
  have hfb := hf i
  have hw : IntKind.i64.wrap (z - f i) = z - f i := IntWalk.i64_in _ (by omega)
  have hz0 : z ≠ 0 := by omega
  have hqb : -2000 ≤ q ∧ q ≤ 2000 := by
    have h1 := Int.natAbs_tdiv_le_natAbs (z - f i) z
    rw [← hq] at h1
    omega
  have hwq : IntKind.i64.wrap q = q := IntWalk.i64_in _ (by omega)
  have hxa := Blk.new w 62 #[.int .i64 i, .int .i64 x, .bool b]
  have d0 := hxa.cell 0
  have d1 := hxa.cell 1
  have d2 := hxa.cell 2
  have hbxa := hbx.alloc (.cells #[.int .i64 i, .int .i64 x, .bool b] 62)
  have d3 := hbxa.cell 0
  have hbel : Below w.heap.size w (w.alloc (.cells #[.int .i64 i, .int .i64 x, .bool b] 62)) := (Below.refl _ _).alloc (Nat.le_refl _) _
  have HK := Lib.hid (And.intro (h.alloc (.cells #[.int .i64 i, .int .i64 x, .bool b] 62)) (And.intro (hm.alloc (.cells #[.int .i64 i, .int .i64 x, .bool b] 62)) (And.intro hbel (And.intro hz hq))))
  clear hxa hbxa hbel hz h hm hbx hf hzb hfb hqb
  have hqq : (z - f i).tdiv z = q := hq.symm
  clear hq
  go_enter Try.func57, Try.ntmps57
  go_wp2_with fail
  obtain ⟨xb, hxb⟩ : ∃ xb, w.heap.size = xb := ⟨_, rfl⟩
  rw [hxb] at d0 d1 d2 HK ⊢
  generalize (w.alloc (Obj.cells #[Value.int IntKind.i64 i, Value.int IntKind.i64 x, Value.bool b] 62)) = wa at *
  have hsz : xb ≤ wa.heap.size := by rw [← hxb]; exact HK.out.2.2.1.size
  have hinit : wa.cell? ⟨xb, 0, none⟩ = some (.int .i64 i) ∧ wa.cell? ⟨xb, 1, none⟩ = some (.int .i64 x) ∧ wa.cell? ⟨xb, 2, none⟩ = some (.bool b) ∧ wa.cell? ⟨bx, 0, none⟩ = some (.pointer (some ⟨g, 0, none⟩)) := ⟨d0, d1, d2, d3⟩
  obtain ⟨d0, d1, d2, d3⟩ := hinit
  go_region_held3 (fun w' => w'.cell? ⟨xb, 0, none⟩ = some (.int .i64 i) ∧ w'.cell? ⟨xb, 1, none⟩ = some (.int .i64 x) ∧ w'.cell? ⟨xb, 2, none⟩ = some (.bool b) ∧ w'.cell? ⟨bx, 0, none⟩ = some (.pointer (some ⟨g, 0, none⟩))) (go_keep)
    (first
      | (go_at_call 58; go_must (refine (weight_any i x b z HK.out.2.2.2.1 _).mono ?_); rintro e w' ⟨rfl, rfl⟩)
      | (go_at_call 36; go_must (refine (left_any g mb n c f i hi _ (by first | exact HK.out.1 | exact HK.out.1.alloc _ | exact (HK.out.1.alloc _).alloc _) (by first | exact HK.out.2.1 | exact HK.out.2.1.alloc _ | exact (HK.out.2.1.alloc _).alloc _)).mono ?_); rintro e w' ⟨rfl, rfl⟩))
  all_goals
    go_wp2_with fail
    go_ret
    refine ⟨rfl, ?_⟩
    rw [hxb]
    exact ((HK.out.2.2.1.alloc hsz _).alloc (by simp; omega) _).drew

end Go.Proofs.Ytdcdfhonkjmpeaa.Pick
