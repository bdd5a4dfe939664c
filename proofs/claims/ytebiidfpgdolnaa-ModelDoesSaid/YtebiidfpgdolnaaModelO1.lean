import Derived.Test.YtebiidfpgdolnaaModelO
import Derived.Deep.QuietTactic
import Derived.BigQuiet
namespace Go.Proofs.Ytebiidfpgdolnaa.Model
open Go.ChangeShapes Go.WideShapes Go.ChangeAt Go.RowKit Go.Deep
set_option linter.unusedVariables false
open Go.Lib
set_option linter.unusedSimpArgs false

set_option maxRecDepth 100000 in
set_option maxHeartbeats 3200000 in
theorem do_56 (g u x lo : Nat) (t t' : St) (hkk : t.k = 1 ∨ t.k = 2) (K N : Int) (hK : K = 5 ∨ K = 6) (s0 : ByteArray) (e0 : Bool) (s : ByteArray) (e v : Bool) (hnx : nextOf t N = (s, e))
    (h1 : MethF 20 #[.pointer (some ⟨g, 0, none⟩), .string s, .bool e] g lo t t' v) (h2 : MethR 23 #[.pointer (some ⟨x, 0, none⟩), .string s, .bool e] u x lo t t' v)
    (w : World) (hr : Ready w g u x lo t) :
    Calls Try.prog 8 #[.pointer (some ⟨g, 0, none⟩), .pointer (some ⟨x, 0, none⟩), .agg #[.int .i64 K, .int .i64 N, .string s0, .bool e0]] w (Both g u x lo t' w) := by
  have hb0 : ∀ o, Below w.heap.size w (w.alloc o) := fun o => (Below.refl _ w).alloc (Nat.le_refl _) o
  have hr0 : ∀ o, Ready (w.alloc o) g u x lo t := fun o => hr.below (hb0 o)
  have hnn : ∀ w, RefF w u x lo t → Calls Try.prog 24 #[.pointer (some ⟨x, 0, none⟩), .int .i64 N] w fun f w' => f = .returned (.tuple #[.string s, .bool e]) ∧ Below w.heap.size w w' := fun w h => by
    have := lawnext_any u x lo t hkk N w h
    rw [hnx] at this
    exact this
  clear hr hnx hkk
  have HB0 := Lib.hid hb0
  clear hb0
  have HR0 := Lib.hid hr0
  clear hr0
  have H1 := Lib.hid h1
  clear h1
  have H2 := Lib.hid h2
  clear h2
  have HN := Lib.hid hnn
  clear hnn
  rcases hK with rfl | rfl
  all_goals
    go_enter Try.func8, Try.ntmps8
    go_wp2_with fail
    refine (HN.out _ (HR0.out _).ref).mono ?_
    rintro f1 w1 ⟨rfl, hm1⟩
    have hr1 := (HR0.out _).below hm1
    have hb1 := (HB0.out _).trans (hm1.mono (by simp))
    have HR1 := Lib.hid hr1
    clear hr1
    have HB1 := Lib.hid hb1
    clear hb1
    clear hm1
    go_wp2_with fail
    refine (H1.out _ HR1.out.flow HR1.out.lo).mono ?_
    rintro f2 w2 ⟨rfl, hk2, hg2⟩
    have HK2 := Lib.hid hk2
    clear hk2
    have HG2 := Lib.hid hg2
    clear hg2
    go_wp2_with fail
    refine (H2.out _ (HR1.out.mid HG2.out) (Nat.le_trans HR1.out.lo HG2.out.size)).mono ?_
    rintro f3 w3 ⟨rfl, hk3, hg3⟩
    have HK3 := Lib.hid hk3
    clear hk3
    have HG3 := Lib.hid hg3
    clear hg3
    go_wp2_with fail
    go_ret
    exact Both.of HR1.out HB1.out HK2.out HG2.out HK3.out HG3.out

set_option maxRecDepth 100000 in
set_option maxHeartbeats 3200000 in
theorem do_89n (g u x lo : Nat) (t : St) (K N : Int) (hK : K = 8 ∨ K = 9) (s0 : ByteArray) (e0 : Bool) (hway : t.way = [])
    (w : World) (hr : Ready w g u x lo t) :
    Calls Try.prog 8 #[.pointer (some ⟨g, 0, none⟩), .pointer (some ⟨x, 0, none⟩), .agg #[.int .i64 K, .int .i64 N, .string s0, .bool e0]] w (Both g u x lo t w) := by
  have hb0 : ∀ o, Below w.heap.size w (w.alloc o) := fun o => (Below.refl _ w).alloc (Nat.le_refl _) o
  have hr0 : ∀ o, Ready (w.alloc o) g u x lo t := fun o => hr.below (hb0 o)
  obtain ⟨-, -, -, vL, vY, vV, -, hx, -, hY, -⟩ := hr.ref
  rw [hway] at hY
  obtain ⟨ao, cap, rfl, -⟩ := hY.cap_of
  have x1 : w.cell? ⟨x, 1, none⟩ = some (.slice ao 0 cap) := hx.cell 1
  have hlx := hr.xlt
  clear hr hx hY
  have HB0 := Lib.hid hb0
  clear hb0
  have HR0 := Lib.hid hr0
  clear hr0
  have HW := Lib.hid hway
  clear hway
  rcases hK with rfl | rfl
  all_goals
    go_enter Try.func8, Try.ntmps8
    go_wp2_with fail
    refine (came_not g lo t ⟨#[]⟩ false (by rw [HW.out]; simp) _ (HR0.out _).flow).mono ?_
    rintro f1 w1 ⟨rfl, rfl⟩
    go_wp2_with fail
    go_ret
    exact ⟨rfl, HR0.out _, Tri.new (HB0.out _)⟩

set_option maxRecDepth 100000 in
set_option maxHeartbeats 3200000 in
theorem do_89 (g u x lo : Nat) (t t' : St) (K N : Int) (hK : K = 8 ∨ K = 9) (s0 : ByteArray) (e0 : Bool) (s : ByteArray) (e v : Bool) (r : List (ByteArray × Bool)) (hway : t.way = (s, e) :: r)
    (h1 : MethF 21 #[.pointer (some ⟨g, 0, none⟩), .string s, .bool e] g lo t t' v) (h2 : MethR 25 #[.pointer (some ⟨x, 0, none⟩), .string s, .bool e] u x lo t t' v)
    (w : World) (hr : Ready w g u x lo t) :
    Calls Try.prog 8 #[.pointer (some ⟨g, 0, none⟩), .pointer (some ⟨x, 0, none⟩), .agg #[.int .i64 K, .int .i64 N, .string s0, .bool e0]] w (Both g u x lo t' w) := by
  have hb0 : ∀ o d, Below w.heap.size w ((w.alloc o).drewN d) := fun o d => below_drewN ((Below.refl _ w).alloc (Nat.le_refl _) o) d
  have hr0 : ∀ o d, Ready ((w.alloc o).drewN d) g u x lo t := fun o d => hr.below (hb0 o d)
  obtain ⟨-, -, -, vL, vY, vV, -, hx, -, hY, -⟩ := hr.ref
  rw [hway] at hY
  obtain ⟨b, off, cap, rfl, hcap, hb1, hb2, hc⟩ := hY.some_of (by simp)
  have q0 : w.cell? ⟨b, off, none⟩ = some (.string s) := hc 0 _ rfl
  have q1 : w.cell? ⟨b, off + 1, none⟩ = some (.bool e) := hc 1 _ rfl
  have x1 : w.cell? ⟨x, 1, none⟩ = some (.slice (some ⟨b, off, none⟩) (r.length + 1) cap) := hx.cell 1
  obtain ⟨n, hn⟩ : ∃ n, r.length = n := ⟨_, rfl⟩
  rw [hn] at x1
  have hlx := hr.xlt
  have hn1 : (0 : Int) < ((n + 1 : Nat) : Int) := by omega
  have hn0 : ¬ ((n + 1 : Nat) : Int) = 0 := by omega
  clear hr hx hY hn hc hway hcap hb1
  have HB0 := Lib.hid hb0
  clear hb0
  have HR0 := Lib.hid hr0
  clear hr0
  have H1 := Lib.hid h1
  clear h1
  have H2 := Lib.hid h2
  clear h2
  rcases hK with rfl | rfl
  all_goals
    go_enter Try.func8, Try.ntmps8
    go_wp2_with fail
    go_quiet (fail)
    go_wp2_with fail
    refine (H1.out _ (HR0.out _ _).flow (HR0.out _ _).lo).mono ?_
    rintro f2 w2 ⟨rfl, hk2, hg2⟩
    have HK2 := Lib.hid hk2
    clear hk2
    have HG2 := Lib.hid hg2
    clear hg2
    go_wp2_with fail
    refine (H2.out _ ((HR0.out _ _).mid HG2.out) (Nat.le_trans (HR0.out _ _).lo HG2.out.size)).mono ?_
    rintro f3 w3 ⟨rfl, hk3, hg3⟩
    have HK3 := Lib.hid hk3
    clear hk3
    have HG3 := Lib.hid hg3
    clear hg3
    go_wp2_with fail
    go_ret
    exact Both.of (HR0.out _ _) (HB0.out _ _) HK2.out HG2.out HK3.out HG3.out

end Go.Proofs.Ytebiidfpgdolnaa.Model
