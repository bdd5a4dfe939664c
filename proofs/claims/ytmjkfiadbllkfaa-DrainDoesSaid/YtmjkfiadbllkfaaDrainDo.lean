import Derived.Test.YtmjkfiadbllkfaaDrainM
import Derived.Deep.RegionHeld3
namespace Go.Proofs.Ytmjkfiadbllkfaa.Drain
open Go.ChangeShapes Go.WideShapes Go.ChangeAt Go.RowKit Go.Deep
set_option linter.unusedVariables false

theorem Blk.ne_ {w : World} {g g' : Nat} {t t' : TypeId} {cs cs' : Array Value} (h : Blk w g t cs) (h' : Blk w g' t' cs') (hne : t ≠ t') : g ≠ g' := by
  rintro rfl
  unfold Blk at h h'
  rw [h] at h'
  injection h' with h'
  injection h' with _ ht
  exact hne ht
theorem only_cell {w w' : World} {g : Nat} (h : w.grownBy w' (some g)) {p : Addr} (h1 : p.block < w.heap.size) (h2 : p.block ≠ g) : w'.cell? p = w.cell? p :=
  World.cell?_of_block (h.block p.block h1 (fun e => h2 (by injection e)))

def Meth (f T g : Nat) (args : Array Value) (cs cs' : Array Value) (v : Value) : Prop :=
  ∀ w, Blk w g T cs → Calls Try.prog f args w fun e w' => e = .returned v ∧ Blk w' g T cs' ∧ w.grownBy w' (some g)

set_option maxRecDepth 100000 in
set_option maxHeartbeats 1600000 in
theorem do_send (B g gx : Nat) (cs cs' xs xs' : Array Value) (n m : Int) (c : Int)
    (h1 : Meth 43 93 g #[.pointer (some ⟨g, 0, none⟩), .int .i64 n] cs cs' (.int .i64 c)) (h2 : Meth 63 77 gx #[.pointer (some ⟨gx, 0, none⟩), .int .i64 n] xs xs' (.int .i64 c))
    (w : World) (hd : Blk w g 93 cs) (hx : Blk w gx 77 xs) (hB : B ≤ g ∧ B ≤ gx) :
    Calls Try.prog 48 #[.pointer (some ⟨g, 0, none⟩), .pointer (some ⟨gx, 0, none⟩), .agg #[.int .i64 0, .int .i64 n, .int .i64 m]] w fun e w' =>
      e = .returned (.bool true) ∧ Blk w' g 93 cs' ∧ Blk w' gx 77 xs' ∧ Below B w w' := by
  have hne : g ≠ gx := Blk.ne_ hd hx (by decide)
  have hlg := hd.lt
  have hlx := hx.lt
  have hbx : B ≤ w.heap.size := by omega
  have hbel : ∀ o, Below B w (w.alloc o) := fun o => (Below.refl B w).alloc hbx o
  have hd' : ∀ o, Blk (w.alloc o).drew g 93 cs := fun o => (hd.alloc o).drew
  have hx' : ∀ o, Blk (w.alloc o).drew gx 77 xs := fun o => (hx.alloc o).drew
  clear hd hx
  have HD := Lib.hid hd'
  clear hd'
  have HX := Lib.hid hx'
  clear hx'
  have HBEL := Lib.hid hbel
  clear hbel
  have H1 := Lib.hid h1
  clear h1
  have H2 := Lib.hid h2
  clear h2
  have HNE := Lib.hid hne
  clear hne
  have HBB := Lib.hid hB
  clear hB
  go_enter Try.func48, Try.ntmps48
  go_wp2_with fail
  go_region_held3 (fun w' => w'.cell? ⟨w.heap.size, 0, none⟩ = some (.int .i64 0) ∧ w'.cell? ⟨w.heap.size, 1, none⟩ = some (.int .i64 n) ∧ w'.cell? ⟨w.heap.size, 2, none⟩ = some (.int .i64 m)) (first | (go_simp; done) | exact ⟨q0, q1, q2⟩ | exact ⟨r0, r1, r2⟩)
    (first
      | (go_at_call 43; go_must (refine (H1.out _ (HD.out _)).mono ?_); rintro e w1 ⟨rfl, hk1, hg1⟩
         have q0 : w1.cell? ⟨w.heap.size, 0, none⟩ = some (.int .i64 0) := by rw [only_cell hg1 (by simp) (by simp; omega)]; go_simp
         have q1 : w1.cell? ⟨w.heap.size, 1, none⟩ = some (.int .i64 n) := by rw [only_cell hg1 (by simp) (by simp; omega)]; go_simp
         have q2 : w1.cell? ⟨w.heap.size, 2, none⟩ = some (.int .i64 m) := by rw [only_cell hg1 (by simp) (by simp; omega)]; go_simp)
      | (go_at_call 63; go_must (refine (H2.out _ ((HX.out _).grown hg1 (by intro e; injection e with e; exact HNE.out e.symm))).mono ?_); rintro e w2 ⟨rfl, hk2, hg2⟩
         have r0 : w2.cell? ⟨w.heap.size, 0, none⟩ = some (.int .i64 0) := by rw [only_cell hg2 (by have := hg1.size; simp at this ⊢; omega) (by simp; omega)]; exact q0
         have r1 : w2.cell? ⟨w.heap.size, 1, none⟩ = some (.int .i64 n) := by rw [only_cell hg2 (by have := hg1.size; simp at this ⊢; omega) (by simp; omega)]; exact q1
         have r2 : w2.cell? ⟨w.heap.size, 2, none⟩ = some (.int .i64 m) := by rw [only_cell hg2 (by have := hg1.size; simp at this ⊢; omega) (by simp; omega)]; exact q2))
  go_wp2
  go_ret
  have hb1 := below_only (HBEL.out _).drew hg1 HBB.out.1 (by simp; omega)
  exact ⟨rfl, hk1.grown hg2 (by intro e; injection e with e; exact HNE.out e), hk2, below_only hb1 hg2 HBB.out.2 (Nat.le_trans hbx hb1.size)⟩

set_option maxRecDepth 100000 in
set_option maxHeartbeats 1600000 in
theorem do_got1 (B g gx : Nat) (cs cs' xs xs' : Array Value) (n m : Int) (c : Int)
    (h1 : Meth 42 93 g #[.pointer (some ⟨g, 0, none⟩), .int .i64 n, .int .i64 m] cs cs' (.int .i64 c)) (h2 : Meth 64 77 gx #[.pointer (some ⟨gx, 0, none⟩), .int .i64 n, .int .i64 m] xs xs' (.int .i64 c))
    (w : World) (hd : Blk w g 93 cs) (hx : Blk w gx 77 xs) (hB : B ≤ g ∧ B ≤ gx) :
    Calls Try.prog 48 #[.pointer (some ⟨g, 0, none⟩), .pointer (some ⟨gx, 0, none⟩), .agg #[.int .i64 1, .int .i64 n, .int .i64 m]] w fun e w' =>
      e = .returned (.bool true) ∧ Blk w' g 93 cs' ∧ Blk w' gx 77 xs' ∧ Below B w w' := by
  have hne : g ≠ gx := Blk.ne_ hd hx (by decide)
  have hlg := hd.lt
  have hlx := hx.lt
  have hbx : B ≤ w.heap.size := by omega
  have hbel : ∀ o, Below B w (w.alloc o) := fun o => (Below.refl B w).alloc hbx o
  have hd' : ∀ o, Blk (w.alloc o).drew g 93 cs := fun o => (hd.alloc o).drew
  have hx' : ∀ o, Blk (w.alloc o).drew gx 77 xs := fun o => (hx.alloc o).drew
  clear hd hx
  have HD := Lib.hid hd'
  clear hd'
  have HX := Lib.hid hx'
  clear hx'
  have HBEL := Lib.hid hbel
  clear hbel
  have H1 := Lib.hid h1
  clear h1
  have H2 := Lib.hid h2
  clear h2
  have HNE := Lib.hid hne
  clear hne
  have HBB := Lib.hid hB
  clear hB
  go_enter Try.func48, Try.ntmps48
  go_wp2_with fail
  go_region_held3 (fun w' => w'.cell? ⟨w.heap.size, 0, none⟩ = some (.int .i64 1) ∧ w'.cell? ⟨w.heap.size, 1, none⟩ = some (.int .i64 n) ∧ w'.cell? ⟨w.heap.size, 2, none⟩ = some (.int .i64 m)) (first | (go_simp; done) | exact ⟨q0, q1, q2⟩ | exact ⟨r0, r1, r2⟩)
    (first
      | (go_at_call 42; go_must (refine (H1.out _ (HD.out _)).mono ?_); rintro e w1 ⟨rfl, hk1, hg1⟩
         have q0 : w1.cell? ⟨w.heap.size, 0, none⟩ = some (.int .i64 1) := by rw [only_cell hg1 (by simp) (by simp; omega)]; go_simp
         have q1 : w1.cell? ⟨w.heap.size, 1, none⟩ = some (.int .i64 n) := by rw [only_cell hg1 (by simp) (by simp; omega)]; go_simp
         have q2 : w1.cell? ⟨w.heap.size, 2, none⟩ = some (.int .i64 m) := by rw [only_cell hg1 (by simp) (by simp; omega)]; go_simp)
      | (go_at_call 64; go_must (refine (H2.out _ ((HX.out _).grown hg1 (by intro e; injection e with e; exact HNE.out e.symm))).mono ?_); rintro e w2 ⟨rfl, hk2, hg2⟩
         have r0 : w2.cell? ⟨w.heap.size, 0, none⟩ = some (.int .i64 1) := by rw [only_cell hg2 (by have := hg1.size; simp at this ⊢; omega) (by simp; omega)]; exact q0
         have r1 : w2.cell? ⟨w.heap.size, 1, none⟩ = some (.int .i64 n) := by rw [only_cell hg2 (by have := hg1.size; simp at this ⊢; omega) (by simp; omega)]; exact q1
         have r2 : w2.cell? ⟨w.heap.size, 2, none⟩ = some (.int .i64 m) := by rw [only_cell hg2 (by have := hg1.size; simp at this ⊢; omega) (by simp; omega)]; exact q2))
  go_wp2
  go_ret
  have hb1 := below_only (HBEL.out _).drew hg1 HBB.out.1 (by simp; omega)
  exact ⟨rfl, hk1.grown hg2 (by intro e; injection e with e; exact HNE.out e), hk2, below_only hb1 hg2 HBB.out.2 (Nat.le_trans hbx hb1.size)⟩

set_option maxRecDepth 100000 in
set_option maxHeartbeats 1600000 in
theorem do_got2 (B g gx : Nat) (cs cs' xs xs' : Array Value) (n m : Int) (c : Int)
    (h1 : Meth 42 93 g #[.pointer (some ⟨g, 0, none⟩), .int .i64 n, .int .i64 m] cs cs' (.int .i64 c)) (h2 : Meth 64 77 gx #[.pointer (some ⟨gx, 0, none⟩), .int .i64 n, .int .i64 m] xs xs' (.int .i64 c))
    (w : World) (hd : Blk w g 93 cs) (hx : Blk w gx 77 xs) (hB : B ≤ g ∧ B ≤ gx) :
    Calls Try.prog 48 #[.pointer (some ⟨g, 0, none⟩), .pointer (some ⟨gx, 0, none⟩), .agg #[.int .i64 2, .int .i64 n, .int .i64 m]] w fun e w' =>
      e = .returned (.bool true) ∧ Blk w' g 93 cs' ∧ Blk w' gx 77 xs' ∧ Below B w w' := by
  have hne : g ≠ gx := Blk.ne_ hd hx (by decide)
  have hlg := hd.lt
  have hlx := hx.lt
  have hbx : B ≤ w.heap.size := by omega
  have hbel : ∀ o, Below B w (w.alloc o) := fun o => (Below.refl B w).alloc hbx o
  have hd' : ∀ o, Blk (w.alloc o).drew g 93 cs := fun o => (hd.alloc o).drew
  have hx' : ∀ o, Blk (w.alloc o).drew gx 77 xs := fun o => (hx.alloc o).drew
  clear hd hx
  have HD := Lib.hid hd'
  clear hd'
  have HX := Lib.hid hx'
  clear hx'
  have HBEL := Lib.hid hbel
  clear hbel
  have H1 := Lib.hid h1
  clear h1
  have H2 := Lib.hid h2
  clear h2
  have HNE := Lib.hid hne
  clear hne
  have HBB := Lib.hid hB
  clear hB
  go_enter Try.func48, Try.ntmps48
  go_wp2_with fail
  go_region_held3 (fun w' => w'.cell? ⟨w.heap.size, 0, none⟩ = some (.int .i64 2) ∧ w'.cell? ⟨w.heap.size, 1, none⟩ = some (.int .i64 n) ∧ w'.cell? ⟨w.heap.size, 2, none⟩ = some (.int .i64 m)) (first | (go_simp; done) | exact ⟨q0, q1, q2⟩ | exact ⟨r0, r1, r2⟩)
    (first
      | (go_at_call 42; go_must (refine (H1.out _ (HD.out _)).mono ?_); rintro e w1 ⟨rfl, hk1, hg1⟩
         have q0 : w1.cell? ⟨w.heap.size, 0, none⟩ = some (.int .i64 2) := by rw [only_cell hg1 (by simp) (by simp; omega)]; go_simp
         have q1 : w1.cell? ⟨w.heap.size, 1, none⟩ = some (.int .i64 n) := by rw [only_cell hg1 (by simp) (by simp; omega)]; go_simp
         have q2 : w1.cell? ⟨w.heap.size, 2, none⟩ = some (.int .i64 m) := by rw [only_cell hg1 (by simp) (by simp; omega)]; go_simp)
      | (go_at_call 64; go_must (refine (H2.out _ ((HX.out _).grown hg1 (by intro e; injection e with e; exact HNE.out e.symm))).mono ?_); rintro e w2 ⟨rfl, hk2, hg2⟩
         have r0 : w2.cell? ⟨w.heap.size, 0, none⟩ = some (.int .i64 2) := by rw [only_cell hg2 (by have := hg1.size; simp at this ⊢; omega) (by simp; omega)]; exact q0
         have r1 : w2.cell? ⟨w.heap.size, 1, none⟩ = some (.int .i64 n) := by rw [only_cell hg2 (by have := hg1.size; simp at this ⊢; omega) (by simp; omega)]; exact q1
         have r2 : w2.cell? ⟨w.heap.size, 2, none⟩ = some (.int .i64 m) := by rw [only_cell hg2 (by have := hg1.size; simp at this ⊢; omega) (by simp; omega)]; exact q2))
  go_wp2
  go_ret
  have hb1 := below_only (HBEL.out _).drew hg1 HBB.out.1 (by simp; omega)
  exact ⟨rfl, hk1.grown hg2 (by intro e; injection e with e; exact HNE.out e), hk2, below_only hb1 hg2 HBB.out.2 (Nat.le_trans hbx hb1.size)⟩

set_option maxRecDepth 100000 in
set_option maxHeartbeats 1600000 in
theorem do_fail (B g gx : Nat) (cs cs' xs xs' : Array Value) (n m : Int) (c : Int)
    (h1 : Meth 51 93 g #[.pointer (some ⟨g, 0, none⟩), .int .i64 m] cs cs' (.int .i64 c)) (h2 : Meth 65 77 gx #[.pointer (some ⟨gx, 0, none⟩), .int .i64 m] xs xs' (.int .i64 c))
    (w : World) (hd : Blk w g 93 cs) (hx : Blk w gx 77 xs) (hB : B ≤ g ∧ B ≤ gx) :
    Calls Try.prog 48 #[.pointer (some ⟨g, 0, none⟩), .pointer (some ⟨gx, 0, none⟩), .agg #[.int .i64 3, .int .i64 n, .int .i64 m]] w fun e w' =>
      e = .returned (.bool true) ∧ Blk w' g 93 cs' ∧ Blk w' gx 77 xs' ∧ Below B w w' := by
  have hne : g ≠ gx := Blk.ne_ hd hx (by decide)
  have hlg := hd.lt
  have hlx := hx.lt
  have hbx : B ≤ w.heap.size := by omega
  have hbel : ∀ o, Below B w (w.alloc o) := fun o => (Below.refl B w).alloc hbx o
  have hd' : ∀ o, Blk (w.alloc o).drew g 93 cs := fun o => (hd.alloc o).drew
  have hx' : ∀ o, Blk (w.alloc o).drew gx 77 xs := fun o => (hx.alloc o).drew
  clear hd hx
  have HD := Lib.hid hd'
  clear hd'
  have HX := Lib.hid hx'
  clear hx'
  have HBEL := Lib.hid hbel
  clear hbel
  have H1 := Lib.hid h1
  clear h1
  have H2 := Lib.hid h2
  clear h2
  have HNE := Lib.hid hne
  clear hne
  have HBB := Lib.hid hB
  clear hB
  go_enter Try.func48, Try.ntmps48
  go_wp2_with fail
  go_region_held3 (fun w' => w'.cell? ⟨w.heap.size, 0, none⟩ = some (.int .i64 3) ∧ w'.cell? ⟨w.heap.size, 1, none⟩ = some (.int .i64 n) ∧ w'.cell? ⟨w.heap.size, 2, none⟩ = some (.int .i64 m)) (first | (go_simp; done) | exact ⟨q0, q1, q2⟩ | exact ⟨r0, r1, r2⟩)
    (first
      | (go_at_call 51; go_must (refine (H1.out _ (HD.out _)).mono ?_); rintro e w1 ⟨rfl, hk1, hg1⟩
         have q0 : w1.cell? ⟨w.heap.size, 0, none⟩ = some (.int .i64 3) := by rw [only_cell hg1 (by simp) (by simp; omega)]; go_simp
         have q1 : w1.cell? ⟨w.heap.size, 1, none⟩ = some (.int .i64 n) := by rw [only_cell hg1 (by simp) (by simp; omega)]; go_simp
         have q2 : w1.cell? ⟨w.heap.size, 2, none⟩ = some (.int .i64 m) := by rw [only_cell hg1 (by simp) (by simp; omega)]; go_simp)
      | (go_at_call 65; go_must (refine (H2.out _ ((HX.out _).grown hg1 (by intro e; injection e with e; exact HNE.out e.symm))).mono ?_); rintro e w2 ⟨rfl, hk2, hg2⟩
         have r0 : w2.cell? ⟨w.heap.size, 0, none⟩ = some (.int .i64 3) := by rw [only_cell hg2 (by have := hg1.size; simp at this ⊢; omega) (by simp; omega)]; exact q0
         have r1 : w2.cell? ⟨w.heap.size, 1, none⟩ = some (.int .i64 n) := by rw [only_cell hg2 (by have := hg1.size; simp at this ⊢; omega) (by simp; omega)]; exact q1
         have r2 : w2.cell? ⟨w.heap.size, 2, none⟩ = some (.int .i64 m) := by rw [only_cell hg2 (by have := hg1.size; simp at this ⊢; omega) (by simp; omega)]; exact q2))
  go_wp2
  go_ret
  have hb1 := below_only (HBEL.out _).drew hg1 HBB.out.1 (by simp; omega)
  exact ⟨rfl, hk1.grown hg2 (by intro e; injection e with e; exact HNE.out e), hk2, below_only hb1 hg2 HBB.out.2 (Nat.le_trans hbx hb1.size)⟩

set_option maxRecDepth 100000 in
set_option maxHeartbeats 1600000 in
theorem do_step (B g gx : Nat) (cs cs' xs xs' : Array Value) (k n m : Int) (b : Bool)
    (h1 : Meth 41 93 g #[.pointer (some ⟨g, 0, none⟩), .int .i64 n] cs cs' (.bool b)) (h2 : Meth 66 77 gx #[.pointer (some ⟨gx, 0, none⟩), .int .i64 n] xs xs' (.bool b)) (hk : k ≠ 0 ∧ k ≠ 1 ∧ k ≠ 2 ∧ k ≠ 3)
    (w : World) (hd : Blk w g 93 cs) (hx : Blk w gx 77 xs) (hB : B ≤ g ∧ B ≤ gx) :
    Calls Try.prog 48 #[.pointer (some ⟨g, 0, none⟩), .pointer (some ⟨gx, 0, none⟩), .agg #[.int .i64 k, .int .i64 n, .int .i64 m]] w fun e w' =>
      e = .returned (.bool true) ∧ Blk w' g 93 cs' ∧ Blk w' gx 77 xs' ∧ Below B w w' := by
  have hne : g ≠ gx := Blk.ne_ hd hx (by decide)
  have hlg := hd.lt
  have hlx := hx.lt
  have hbx : B ≤ w.heap.size := by omega
  have hbel : ∀ o, Below B w (w.alloc o) := fun o => (Below.refl B w).alloc hbx o
  have hd' : ∀ o, Blk (w.alloc o).drew g 93 cs := fun o => (hd.alloc o).drew
  have hx' : ∀ o, Blk (w.alloc o).drew gx 77 xs := fun o => (hx.alloc o).drew
  clear hd hx
  have HD := Lib.hid hd'
  clear hd'
  have HX := Lib.hid hx'
  clear hx'
  have HBEL := Lib.hid hbel
  clear hbel
  have H1 := Lib.hid h1
  clear h1
  have H2 := Lib.hid h2
  clear h2
  have HNE := Lib.hid hne
  clear hne
  have HBB := Lib.hid hB
  clear hB
  obtain ⟨e0, e1, e2, e3⟩ := hk
  have z0 : (k == 0) = false := by simp; omega
  have z1 : (k == 1) = false := by simp; omega
  have z2 : (k == 2) = false := by simp; omega
  have z3 : (k == 3) = false := by simp; omega
  clear e0 e1 e2 e3
  go_enter Try.func48, Try.ntmps48
  go_wp2_with fail
  go_region_held3 (fun w' => w'.cell? ⟨w.heap.size, 0, none⟩ = some (.int .i64 k) ∧ w'.cell? ⟨w.heap.size, 1, none⟩ = some (.int .i64 n) ∧ w'.cell? ⟨w.heap.size, 2, none⟩ = some (.int .i64 m)) (first | (go_simp; done) | exact ⟨q0, q1, q2⟩ | exact ⟨r0, r1, r2⟩)
    (first
      | (go_at_call 41; go_must (refine (H1.out _ (HD.out _)).mono ?_); rintro e w1 ⟨rfl, hk1, hg1⟩
         have q0 : w1.cell? ⟨w.heap.size, 0, none⟩ = some (.int .i64 k) := by rw [only_cell hg1 (by simp) (by simp; omega)]; go_simp
         have q1 : w1.cell? ⟨w.heap.size, 1, none⟩ = some (.int .i64 n) := by rw [only_cell hg1 (by simp) (by simp; omega)]; go_simp
         have q2 : w1.cell? ⟨w.heap.size, 2, none⟩ = some (.int .i64 m) := by rw [only_cell hg1 (by simp) (by simp; omega)]; go_simp)
      | (go_at_call 66; go_must (refine (H2.out _ ((HX.out _).grown hg1 (by intro e; injection e with e; exact HNE.out e.symm))).mono ?_); rintro e w2 ⟨rfl, hk2, hg2⟩
         have r0 : w2.cell? ⟨w.heap.size, 0, none⟩ = some (.int .i64 k) := by rw [only_cell hg2 (by have := hg1.size; simp at this ⊢; omega) (by simp; omega)]; exact q0
         have r1 : w2.cell? ⟨w.heap.size, 1, none⟩ = some (.int .i64 n) := by rw [only_cell hg2 (by have := hg1.size; simp at this ⊢; omega) (by simp; omega)]; exact q1
         have r2 : w2.cell? ⟨w.heap.size, 2, none⟩ = some (.int .i64 m) := by rw [only_cell hg2 (by have := hg1.size; simp at this ⊢; omega) (by simp; omega)]; exact q2))
  go_wp2
  go_ret
  have hb1 := below_only (HBEL.out _).drew hg1 HBB.out.1 (by simp; omega)
  exact ⟨rfl, hk1.grown hg2 (by intro e; injection e with e; exact HNE.out e), hk2, below_only hb1 hg2 HBB.out.2 (Nat.le_trans hbx hb1.size)⟩

end Go.Proofs.Ytmjkfiadbllkfaa.Drain
