import Derived.Test.YtebiidfpgdolnaaModelM
import Derived.Deep.RegionHeld3
namespace Go.Proofs.Ytebiidfpgdolnaa.Model
open Go.ChangeShapes Go.WideShapes Go.ChangeAt Go.RowKit Go.Deep
set_option linter.unusedVariables false
open Go.Lib
set_option linter.unusedSimpArgs false

/-! 'do', kind by kind. -/
def MethF (f : Nat) (args : Array Value) (g lo : Nat) (t t' : St) (v : Bool) : Prop :=
  ∀ w, FlowAt w g lo t → lo ≤ w.heap.size → Calls Try.prog f args w fun e w' => e = .returned (.bool v) ∧ FlowAt w' g lo t' ∧ w.grownBy w' (some g)
def MethR (f : Nat) (args : Array Value) (u x lo : Nat) (t t' : St) (v : Bool) : Prop :=
  ∀ w, RefF w u x lo t → lo ≤ w.heap.size → Calls Try.prog f args w fun e w' => e = .returned (.bool v) ∧ RefF w' u x lo t' ∧ Dual w w' u x

def mayB (t : St) (s : ByteArray) (e : Bool) : Bool := !t.ou && okNext t s e
def isB (t : St) (s : ByteArray) (e : Bool) : Bool := decide (t.way.head? = some (s, e))

section
variable {t : St} {m : Nat}
theorem Inv.way5 (h : Inv t m) : ∀ p ∈ t.way, p.1.size ≤ 100000 := fun p hp => by have := h.hwz p hp; omega

theorem sentm (g lo : Nat) (hm : m ≤ 100) (h : Inv t m) (s : ByteArray) (e : Bool) : MethF 20 #[.pointer (some ⟨g, 0, none⟩), .string s, .bool e] g lo t (sentOf t s e) (mayB t s e) := by
  intro w hF hl
  by_cases hok : t.ou = false ∧ okNext t s e = true
  · have h1 : sentOf t s e = afterSent t s e := by unfold sentOf; rw [if_pos hok]
    have h2 : mayB t s e = true := by simp [mayB, hok]
    rw [h1, h2]
    exact sent_yes g lo t h.hk s e hok.1 hok.2 (by have := h.hway; omega) w hF hl
  · have h1 : sentOf t s e = t := by unfold sentOf; rw [if_neg hok]
    have hno : t.ou = true ∨ okNext t s e = false := by
      cases ho : t.ou <;> cases hn : okNext t s e <;> simp_all
    have h2 : mayB t s e = false := by rcases hno with h | h <;> simp [mayB, h]
    rw [h1, h2]
    refine (sent_no g lo t h.hk s e hno w hF).mono ?_
    rintro f w' ⟨rfl, rfl⟩
    exact ⟨rfl, hF, World.grownBy.refl _ _⟩

theorem sentr (u x lo : Nat) (hm : m ≤ 100) (h : Inv t m) (s : ByteArray) (e : Bool) : MethR 23 #[.pointer (some ⟨x, 0, none⟩), .string s, .bool e] u x lo t (sentOf t s e) (mayB t s e) := by
  intro w hF hl
  by_cases hok : t.ou = false ∧ okNext t s e = true
  · have h1 : sentOf t s e = afterSent t s e := by unfold sentOf; rw [if_pos hok]
    have h2 : mayB t s e = true := by simp [mayB, hok]
    rw [h1, h2]
    exact refsent_yes u x lo t h.hk s e hok.1 hok.2 (by have := h.hway; omega) w hF hl
  · have h1 : sentOf t s e = t := by unfold sentOf; rw [if_neg hok]
    have hno : t.ou = true ∨ okNext t s e = false := by
      cases ho : t.ou <;> cases hn : okNext t s e <;> simp_all
    have h2 : mayB t s e = false := by rcases hno with h | h <;> simp [mayB, h]
    rw [h1, h2]
    refine (refsent_no u x lo t h.hk s e hno w hF).mono ?_
    rintro f w' ⟨rfl, hb⟩
    exact ⟨rfl, hF.below hb, Dual.new hb⟩

theorem camem (g lo : Nat) (hm : m ≤ 100) (h : Inv t m) (s : ByteArray) (e : Bool) : MethF 21 #[.pointer (some ⟨g, 0, none⟩), .string s, .bool e] g lo t (cameOf t s e) (isB t s e) := by
  intro w hF hl
  by_cases hok : t.way.head? = some (s, e)
  · have h1 : cameOf t s e = afterCame t s e := by unfold cameOf; rw [if_pos hok]
    have h2 : isB t s e = true := by simp [isB, hok]
    rw [h1, h2]
    have hs : s.size ≤ 4096 := h.hwz (s, e) (List.mem_of_mem_head? hok)
    exact came_yes g lo t h.hk s e hok (by have := h.hV; omega) (by have := h.hz; omega) w hF hl
  · have h1 : cameOf t s e = t := by unfold cameOf; rw [if_neg hok]
    have h2 : isB t s e = false := by simp [isB, hok]
    rw [h1, h2]
    refine (came_not g lo t s e hok w hF).mono ?_
    rintro f w' ⟨rfl, rfl⟩
    exact ⟨rfl, hF, World.grownBy.refl _ _⟩

theorem camer (u x lo : Nat) (hm : m ≤ 100) (h : Inv t m) (s : ByteArray) (e : Bool) : MethR 25 #[.pointer (some ⟨x, 0, none⟩), .string s, .bool e] u x lo t (cameOf t s e) (isB t s e) := by
  intro w hF hl
  by_cases hok : t.way.head? = some (s, e)
  · have h1 : cameOf t s e = afterCame t s e := by unfold cameOf; rw [if_pos hok]
    have h2 : isB t s e = true := by simp [isB, hok]
    rw [h1, h2]
    have hs : s.size ≤ 4096 := h.hwz (s, e) (List.mem_of_mem_head? hok)
    exact reftake_yes u x lo t h.hk s e hok (by have := h.hV; omega) (by have := h.hz; omega) w hF hl
  · have h1 : cameOf t s e = t := by unfold cameOf; rw [if_neg hok]
    have h2 : isB t s e = false := by simp [isB, hok]
    rw [h1, h2]
    refine (reftake_no u x lo t s e hok w hF).mono ?_
    rintro f w' ⟨rfl, rfl⟩
    exact ⟨rfl, hF, Dual.new (Below.refl _ _)⟩
end

theorem tri_cell {w w' : World} {g : Nat} (h : w.grownBy w' (some g)) {p : Addr} (h1 : p.block < w.heap.size) (h2 : p.block ≠ g) : w'.cell? p = w.cell? p :=
  World.cell?_of_block (h.block p.block h1 (fun e => h2 (by injection e)))
theorem dual_cell {w w' : World} {u x : Nat} (h : Dual w w' u x) {p : Addr} (h1 : p.block < w.heap.size) (h2 : p.block ≠ u) (h3 : p.block ≠ x) : w'.cell? p = w.cell? p :=
  World.cell?_of_block (h.2.2.2.2 p.block h1 h2 h3)

/-- What is kept of both before the first call. -/
structure Ready (w : World) (g u x lo : Nat) (t : St) : Prop where
  flow : FlowAt w g lo t
  ref : RefF w u x lo t
  gu : g ≠ u
  gx : g ≠ x
  lo : lo ≤ w.heap.size
theorem Ready.below {w w' : World} {g u x lo : Nat} {t : St} (h : Ready w g u x lo t) (hb : Below w.heap.size w w') : Ready w' g u x lo t :=
  ⟨h.flow.below hb, h.ref.below hb, h.gu, h.gx, Nat.le_trans h.lo hb.size⟩
theorem Ready.glt {w : World} {g u x lo : Nat} {t : St} (h : Ready w g u x lo t) : g < w.heap.size := h.flow.lt
theorem Ready.ult {w : World} {g u x lo : Nat} {t : St} (h : Ready w g u x lo t) : u < w.heap.size := Nat.lt_of_lt_of_le h.ref.1 h.lo
theorem Ready.xlt {w : World} {g u x lo : Nat} {t : St} (h : Ready w g u x lo t) : x < w.heap.size := Nat.lt_of_lt_of_le h.ref.2.1 h.lo
/-- Behind a call of the model, then one of the document. -/
theorem Ready.both {w w1 w2 : World} {g u x lo : Nat} {t t' : St} (h : Ready w g u x lo t) (h1 : FlowAt w1 g lo t') (hg : w.grownBy w1 (some g)) (h2 : RefF w2 u x lo t') (hd : Dual w1 w2 u x) :
    Ready w2 g u x lo t' ∧ Tri w w2 g u x :=
  ⟨⟨h1.dual hd h.gu h.gx h.ref.1 h.ref.2.1, h2, h.gu, h.gx, Nat.le_trans h.lo (Nat.le_trans hg.size hd.2.2.2.1)⟩, (Tri.of hg).trans (Tri.dual hd)⟩
theorem Ready.mid {w w1 : World} {g u x lo : Nat} {t : St} (h : Ready w g u x lo t) (hg : w.grownBy w1 (some g)) : RefF w1 u x lo t := h.ref.grown hg (Ne.symm h.gu) (Ne.symm h.gx) h.flow.1

/-- Both calls of 'do', as its statement has it. -/
def Both (g u x lo : Nat) (t' : St) (w : World) (e : Ending) (w' : World) : Prop := e = .returned (.bool true) ∧ Ready w' g u x lo t' ∧ Tri w w' g u x
theorem Both.of {w w0 w1 w2 : World} {g u x lo : Nat} {t t' : St} (hr : Ready w0 g u x lo t) (hb : Below w.heap.size w w0) (h1 : FlowAt w1 g lo t') (hg : w0.grownBy w1 (some g)) (h2 : RefF w2 u x lo t') (hd : Dual w1 w2 u x) : Both g u x lo t' w (.returned (.bool true)) w2 :=
  ⟨rfl, (hr.both h1 hg h2 hd).1, (Tri.new hb).trans (hr.both h1 hg h2 hd).2⟩

set_option maxRecDepth 100000 in
set_option maxHeartbeats 3200000 in
theorem do_4 (g u x lo : Nat) (t t' : St) (N : Int) (s : ByteArray) (e v : Bool)
    (h1 : MethF 20 #[.pointer (some ⟨g, 0, none⟩), .string s, .bool e] g lo t t' v) (h2 : MethR 23 #[.pointer (some ⟨x, 0, none⟩), .string s, .bool e] u x lo t t' v)
    (w : World) (hr : Ready w g u x lo t) :
    Calls Try.prog 8 #[.pointer (some ⟨g, 0, none⟩), .pointer (some ⟨x, 0, none⟩), .agg #[.int .i64 4, .int .i64 N, .string s, .bool e]] w (Both g u x lo t' w) := by
  have hlg := hr.glt
  have hlu := hr.ult
  have hlx := hr.xlt
  have hb0 : ∀ o, Below w.heap.size w (w.alloc o).drew := fun o => ((Below.refl _ w).alloc (Nat.le_refl _) o).drew
  have hr0 : ∀ o, Ready (w.alloc o).drew g u x lo t := fun o => hr.below (hb0 o)
  clear hr
  have HB0 := Lib.hid hb0
  clear hb0
  have HR0 := Lib.hid hr0
  clear hr0
  have H1 := Lib.hid h1
  clear h1
  have H2 := Lib.hid h2
  clear h2
  go_enter Try.func8, Try.ntmps8
  go_wp2_with fail
  go_region_held3 (fun w' => w'.cell? ⟨w.heap.size, 0, none⟩ = some (.int .i64 4) ∧ w'.cell? ⟨w.heap.size, 1, none⟩ = some (.int .i64 N) ∧ w'.cell? ⟨w.heap.size, 2, none⟩ = some (.string s) ∧ w'.cell? ⟨w.heap.size, 3, none⟩ = some (.bool e)) (first | (go_simp; done) | exact ⟨q0, q1, q2, q3⟩ | exact ⟨r0, r1, r2, r3⟩)
    (first
      | (go_at_call 20; go_must (refine (H1.out _ (HR0.out _).flow (HR0.out _).lo).mono ?_); rintro e0 w1 ⟨rfl, hk1, hg1⟩
         have q0 : w1.cell? ⟨w.heap.size, 0, none⟩ = some (.int .i64 4) := by rw [tri_cell hg1 (by simp) (by simp; omega)]; go_simp
         have q1 : w1.cell? ⟨w.heap.size, 1, none⟩ = some (.int .i64 N) := by rw [tri_cell hg1 (by simp) (by simp; omega)]; go_simp
         have q2 : w1.cell? ⟨w.heap.size, 2, none⟩ = some (.string s) := by rw [tri_cell hg1 (by simp) (by simp; omega)]; go_simp
         have q3 : w1.cell? ⟨w.heap.size, 3, none⟩ = some (.bool e) := by rw [tri_cell hg1 (by simp) (by simp; omega)]; go_simp)
      | (go_at_call 23; go_must (refine (H2.out _ ((HR0.out _).mid hg1) (Nat.le_trans (HR0.out _).lo hg1.size)).mono ?_); rintro e0 w2 ⟨rfl, hk2, hg2⟩
         have r0 : w2.cell? ⟨w.heap.size, 0, none⟩ = some (.int .i64 4) := by rw [dual_cell hg2 (by have := hg1.size; simp at this ⊢; omega) (by simp; omega) (by simp; omega)]; exact q0
         have r1 : w2.cell? ⟨w.heap.size, 1, none⟩ = some (.int .i64 N) := by rw [dual_cell hg2 (by have := hg1.size; simp at this ⊢; omega) (by simp; omega) (by simp; omega)]; exact q1
         have r2 : w2.cell? ⟨w.heap.size, 2, none⟩ = some (.string s) := by rw [dual_cell hg2 (by have := hg1.size; simp at this ⊢; omega) (by simp; omega) (by simp; omega)]; exact q2
         have r3 : w2.cell? ⟨w.heap.size, 3, none⟩ = some (.bool e) := by rw [dual_cell hg2 (by have := hg1.size; simp at this ⊢; omega) (by simp; omega) (by simp; omega)]; exact q3))
  go_wp2
  go_ret
  exact Both.of (HR0.out _) (HB0.out _) hk1 hg1 hk2 hg2

set_option maxRecDepth 100000 in
set_option maxHeartbeats 3200000 in
theorem do_7 (g u x lo : Nat) (t t' : St) (N : Int) (s : ByteArray) (e v : Bool)
    (h1 : MethF 21 #[.pointer (some ⟨g, 0, none⟩), .string s, .bool e] g lo t t' v) (h2 : MethR 25 #[.pointer (some ⟨x, 0, none⟩), .string s, .bool e] u x lo t t' v)
    (w : World) (hr : Ready w g u x lo t) :
    Calls Try.prog 8 #[.pointer (some ⟨g, 0, none⟩), .pointer (some ⟨x, 0, none⟩), .agg #[.int .i64 7, .int .i64 N, .string s, .bool e]] w (Both g u x lo t' w) := by
  have hlg := hr.glt
  have hlu := hr.ult
  have hlx := hr.xlt
  have hb0 : ∀ o, Below w.heap.size w (w.alloc o).drew := fun o => ((Below.refl _ w).alloc (Nat.le_refl _) o).drew
  have hr0 : ∀ o, Ready (w.alloc o).drew g u x lo t := fun o => hr.below (hb0 o)
  clear hr
  have HB0 := Lib.hid hb0
  clear hb0
  have HR0 := Lib.hid hr0
  clear hr0
  have H1 := Lib.hid h1
  clear h1
  have H2 := Lib.hid h2
  clear h2
  go_enter Try.func8, Try.ntmps8
  go_wp2_with fail
  go_region_held3 (fun w' => w'.cell? ⟨w.heap.size, 0, none⟩ = some (.int .i64 7) ∧ w'.cell? ⟨w.heap.size, 1, none⟩ = some (.int .i64 N) ∧ w'.cell? ⟨w.heap.size, 2, none⟩ = some (.string s) ∧ w'.cell? ⟨w.heap.size, 3, none⟩ = some (.bool e)) (first | (go_simp; done) | exact ⟨q0, q1, q2, q3⟩ | exact ⟨r0, r1, r2, r3⟩)
    (first
      | (go_at_call 21; go_must (refine (H1.out _ (HR0.out _).flow (HR0.out _).lo).mono ?_); rintro e0 w1 ⟨rfl, hk1, hg1⟩
         have q0 : w1.cell? ⟨w.heap.size, 0, none⟩ = some (.int .i64 7) := by rw [tri_cell hg1 (by simp) (by simp; omega)]; go_simp
         have q1 : w1.cell? ⟨w.heap.size, 1, none⟩ = some (.int .i64 N) := by rw [tri_cell hg1 (by simp) (by simp; omega)]; go_simp
         have q2 : w1.cell? ⟨w.heap.size, 2, none⟩ = some (.string s) := by rw [tri_cell hg1 (by simp) (by simp; omega)]; go_simp
         have q3 : w1.cell? ⟨w.heap.size, 3, none⟩ = some (.bool e) := by rw [tri_cell hg1 (by simp) (by simp; omega)]; go_simp)
      | (go_at_call 25; go_must (refine (H2.out _ ((HR0.out _).mid hg1) (Nat.le_trans (HR0.out _).lo hg1.size)).mono ?_); rintro e0 w2 ⟨rfl, hk2, hg2⟩
         have r0 : w2.cell? ⟨w.heap.size, 0, none⟩ = some (.int .i64 7) := by rw [dual_cell hg2 (by have := hg1.size; simp at this ⊢; omega) (by simp; omega) (by simp; omega)]; exact q0
         have r1 : w2.cell? ⟨w.heap.size, 1, none⟩ = some (.int .i64 N) := by rw [dual_cell hg2 (by have := hg1.size; simp at this ⊢; omega) (by simp; omega) (by simp; omega)]; exact q1
         have r2 : w2.cell? ⟨w.heap.size, 2, none⟩ = some (.string s) := by rw [dual_cell hg2 (by have := hg1.size; simp at this ⊢; omega) (by simp; omega) (by simp; omega)]; exact q2
         have r3 : w2.cell? ⟨w.heap.size, 3, none⟩ = some (.bool e) := by rw [dual_cell hg2 (by have := hg1.size; simp at this ⊢; omega) (by simp; omega) (by simp; omega)]; exact q3))
  go_wp2
  go_ret
  exact Both.of (HR0.out _) (HB0.out _) hk1 hg1 hk2 hg2


end Go.Proofs.Ytebiidfpgdolnaa.Model
