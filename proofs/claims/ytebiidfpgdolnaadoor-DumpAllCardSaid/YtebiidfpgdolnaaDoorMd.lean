import Derived.Test.YtebiidfpgdolnaaDoorMb
namespace Go.Proofs.YtebiidfpgdolnaaDoor.Dmp
open Go.ChangeShapes Go.WideShapes Go.ChangeAt Go.RowKit Go.Deep
set_option linter.unusedVariables false
open Go.Lib
set_option linter.unusedSimpArgs false

set_option maxRecDepth 100000 in
set_option maxHeartbeats 3200000 in
theorem only_01 (ty st : Int) (en : Bool) (da : ByteArray) (ki on we : Int) (ex : Bool) (co la n : Int) (pv : Value) (hty : ty = 0 ∨ ty = 1) (w : World) : Calls Tryd.prog 42 #[.agg #[.int .i64 ty, .int .i64 st, .bool en, .string da, .int .i64 ki, .int .i64 on, .int .i64 we, .bool ex, .int .i64 co, .int .i64 la, .int .i64 n, pv]] w fun e w' => e = .returned (.agg #[.int .i64 ty, .int .i64 st, .bool en, .string da, .int .i64 0, .int .i64 0, .int .i64 0, .bool false, .int .i64 0, .int .i64 0, .int .i64 0, .slice none 0 0]) ∧ Below w.heap.size w w' := by
  have hb : ∀ o p q d, Below w.heap.size w ((((w.alloc o).alloc p).alloc q).drewN d) := fun o p q d => below_drewN ((((Below.refl _ w).alloc (Nat.le_refl _) o).alloc (by simp) p).alloc (by simp; omega) q) d
  have HB := Lib.hid hb
  clear hb
  rcases hty with rfl | rfl
  all_goals
    go_enter Tryd.func42, Tryd.ntmps42
    go_wp2_with fail
    all_goals try (go_region; go_wp2_with fail)
    exact bodyPost_ret (v := .agg #[.int .i64 _, .int .i64 st, .bool en, .string da, .int .i64 0, .int .i64 0, .int .i64 0, .bool false, .int .i64 0, .int .i64 0, .int .i64 0, .slice none 0 0]) (by simp [results, Tryd.results42, go_sem]) rfl ⟨rfl, by first | exact HB.out _ _ _ 0 | exact HB.out _ _ _ _⟩

set_option maxRecDepth 100000 in
set_option maxHeartbeats 3200000 in
theorem only_2 (ty st : Int) (en : Bool) (da : ByteArray) (ki on we : Int) (ex : Bool) (co la n : Int) (pv : Value) (hty : ty = 2) (w : World) : Calls Tryd.prog 42 #[.agg #[.int .i64 ty, .int .i64 st, .bool en, .string da, .int .i64 ki, .int .i64 on, .int .i64 we, .bool ex, .int .i64 co, .int .i64 la, .int .i64 n, pv]] w fun e w' => e = .returned (.agg #[.int .i64 ty, .int .i64 st, .bool false, .string ⟨#[]⟩, .int .i64 ki, .int .i64 on, .int .i64 we, .bool ex, .int .i64 0, .int .i64 0, .int .i64 0, .slice none 0 0]) ∧ Below w.heap.size w w' := by
  have hb : ∀ o p q d, Below w.heap.size w ((((w.alloc o).alloc p).alloc q).drewN d) := fun o p q d => below_drewN ((((Below.refl _ w).alloc (Nat.le_refl _) o).alloc (by simp) p).alloc (by simp; omega) q) d
  have HB := Lib.hid hb
  clear hb
  rcases hty with rfl
  all_goals
    go_enter Tryd.func42, Tryd.ntmps42
    go_wp2_with fail
    all_goals try (go_region; go_wp2_with fail)
    exact bodyPost_ret (v := .agg #[.int .i64 _, .int .i64 st, .bool false, .string ⟨#[]⟩, .int .i64 ki, .int .i64 on, .int .i64 we, .bool ex, .int .i64 0, .int .i64 0, .int .i64 0, .slice none 0 0]) (by simp [results, Tryd.results42, go_sem]) rfl ⟨rfl, by first | exact HB.out _ _ _ 0 | exact HB.out _ _ _ _⟩

set_option maxRecDepth 100000 in
set_option maxHeartbeats 3200000 in
theorem only_3 (ty st : Int) (en : Bool) (da : ByteArray) (ki on we : Int) (ex : Bool) (co la n : Int) (pv : Value) (hty : ty = 3) (w : World) : Calls Tryd.prog 42 #[.agg #[.int .i64 ty, .int .i64 st, .bool en, .string da, .int .i64 ki, .int .i64 on, .int .i64 we, .bool ex, .int .i64 co, .int .i64 la, .int .i64 n, pv]] w fun e w' => e = .returned (.agg #[.int .i64 ty, .int .i64 st, .bool false, .string ⟨#[]⟩, .int .i64 0, .int .i64 on, .int .i64 we, .bool ex, .int .i64 0, .int .i64 0, .int .i64 0, .slice none 0 0]) ∧ Below w.heap.size w w' := by
  have hb : ∀ o p q d, Below w.heap.size w ((((w.alloc o).alloc p).alloc q).drewN d) := fun o p q d => below_drewN ((((Below.refl _ w).alloc (Nat.le_refl _) o).alloc (by simp) p).alloc (by simp; omega) q) d
  have HB := Lib.hid hb
  clear hb
  rcases hty with rfl
  all_goals
    go_enter Tryd.func42, Tryd.ntmps42
    go_wp2_with fail
    all_goals try (go_region; go_wp2_with fail)
    exact bodyPost_ret (v := .agg #[.int .i64 _, .int .i64 st, .bool false, .string ⟨#[]⟩, .int .i64 0, .int .i64 on, .int .i64 we, .bool ex, .int .i64 0, .int .i64 0, .int .i64 0, .slice none 0 0]) (by simp [results, Tryd.results42, go_sem]) rfl ⟨rfl, by first | exact HB.out _ _ _ 0 | exact HB.out _ _ _ _⟩

set_option maxRecDepth 100000 in
set_option maxHeartbeats 3200000 in
theorem only_4 (ty st : Int) (en : Bool) (da : ByteArray) (ki on we : Int) (ex : Bool) (co la n : Int) (pv : Value) (hty : ty = 4) (w : World) : Calls Tryd.prog 42 #[.agg #[.int .i64 ty, .int .i64 st, .bool en, .string da, .int .i64 ki, .int .i64 on, .int .i64 we, .bool ex, .int .i64 co, .int .i64 la, .int .i64 n, pv]] w fun e w' => e = .returned (.agg #[.int .i64 ty, .int .i64 st, .bool false, .string ⟨#[]⟩, .int .i64 0, .int .i64 0, .int .i64 0, .bool false, .int .i64 co, .int .i64 0, .int .i64 0, .slice none 0 0]) ∧ Below w.heap.size w w' := by
  have hb : ∀ o p q d, Below w.heap.size w ((((w.alloc o).alloc p).alloc q).drewN d) := fun o p q d => below_drewN ((((Below.refl _ w).alloc (Nat.le_refl _) o).alloc (by simp) p).alloc (by simp; omega) q) d
  have HB := Lib.hid hb
  clear hb
  rcases hty with rfl
  all_goals
    go_enter Tryd.func42, Tryd.ntmps42
    go_wp2_with fail
    all_goals try (go_region; go_wp2_with fail)
    exact bodyPost_ret (v := .agg #[.int .i64 _, .int .i64 st, .bool false, .string ⟨#[]⟩, .int .i64 0, .int .i64 0, .int .i64 0, .bool false, .int .i64 co, .int .i64 0, .int .i64 0, .slice none 0 0]) (by simp [results, Tryd.results42, go_sem]) rfl ⟨rfl, by first | exact HB.out _ _ _ 0 | exact HB.out _ _ _ _⟩

set_option maxRecDepth 100000 in
set_option maxHeartbeats 3200000 in
theorem only_5 (ty st : Int) (en : Bool) (da : ByteArray) (ki on we : Int) (ex : Bool) (co la n : Int) (sa : Option Addr) (sm sc : Nat) (hty : ty = 5) (w : World) : Calls Tryd.prog 42 #[.agg #[.int .i64 ty, .int .i64 st, .bool en, .string da, .int .i64 ki, .int .i64 on, .int .i64 we, .bool ex, .int .i64 co, .int .i64 la, .int .i64 n, .slice sa sm sc]] w fun e w' => e = .returned (.agg #[.int .i64 ty, .int .i64 st, .bool false, .string ⟨#[]⟩, .int .i64 0, .int .i64 0, .int .i64 0, .bool false, .int .i64 0, .int .i64 0, .int .i64 0, .slice sa sm sc]) ∧ Below w.heap.size w w' := by
  have hb : ∀ o p q d, Below w.heap.size w ((((w.alloc o).alloc p).alloc q).drewN d) := fun o p q d => below_drewN ((((Below.refl _ w).alloc (Nat.le_refl _) o).alloc (by simp) p).alloc (by simp; omega) q) d
  have HB := Lib.hid hb
  clear hb
  rcases hty with rfl
  all_goals
    go_enter Tryd.func42, Tryd.ntmps42
    go_wp2_with fail
    all_goals try (go_region; go_wp2_with fail)
    exact bodyPost_ret (v := .agg #[.int .i64 _, .int .i64 st, .bool false, .string ⟨#[]⟩, .int .i64 0, .int .i64 0, .int .i64 0, .bool false, .int .i64 0, .int .i64 0, .int .i64 0, .slice sa sm sc]) (by simp [results, Tryd.results42, go_sem]) rfl ⟨rfl, by first | exact HB.out _ _ _ 0 | exact HB.out _ _ _ _⟩

set_option maxRecDepth 100000 in
set_option maxHeartbeats 3200000 in
theorem only_6 (ty st : Int) (en : Bool) (da : ByteArray) (ki on we : Int) (ex : Bool) (co la n : Int) (pv : Value) (hty : ty = 6) (w : World) : Calls Tryd.prog 42 #[.agg #[.int .i64 ty, .int .i64 st, .bool en, .string da, .int .i64 ki, .int .i64 on, .int .i64 we, .bool ex, .int .i64 co, .int .i64 la, .int .i64 n, pv]] w fun e w' => e = .returned (.agg #[.int .i64 ty, .int .i64 st, .bool false, .string ⟨#[]⟩, .int .i64 0, .int .i64 0, .int .i64 0, .bool false, .int .i64 0, .int .i64 0, .int .i64 0, .slice none 0 0]) ∧ Below w.heap.size w w' := by
  have hb : ∀ o p q d, Below w.heap.size w ((((w.alloc o).alloc p).alloc q).drewN d) := fun o p q d => below_drewN ((((Below.refl _ w).alloc (Nat.le_refl _) o).alloc (by simp) p).alloc (by simp; omega) q) d
  have HB := Lib.hid hb
  clear hb
  rcases hty with rfl
  all_goals
    go_enter Tryd.func42, Tryd.ntmps42
    go_wp2_with fail
    all_goals try (go_region; go_wp2_with fail)
    exact bodyPost_ret (v := .agg #[.int .i64 _, .int .i64 st, .bool false, .string ⟨#[]⟩, .int .i64 0, .int .i64 0, .int .i64 0, .bool false, .int .i64 0, .int .i64 0, .int .i64 0, .slice none 0 0]) (by simp [results, Tryd.results42, go_sem]) rfl ⟨rfl, by first | exact HB.out _ _ _ 0 | exact HB.out _ _ _ _⟩

set_option maxRecDepth 100000 in
set_option maxHeartbeats 3200000 in
theorem only_78 (ty st : Int) (en : Bool) (da : ByteArray) (ki on we : Int) (ex : Bool) (co la n : Int) (pv : Value) (hty : ty = 7 ∨ ty = 8) (w : World) : Calls Tryd.prog 42 #[.agg #[.int .i64 ty, .int .i64 st, .bool en, .string da, .int .i64 ki, .int .i64 on, .int .i64 we, .bool ex, .int .i64 co, .int .i64 la, .int .i64 n, pv]] w fun e w' => e = .returned (.agg #[.int .i64 ty, .int .i64 st, .bool false, .string da, .int .i64 0, .int .i64 0, .int .i64 0, .bool false, .int .i64 0, .int .i64 0, .int .i64 0, .slice none 0 0]) ∧ Below w.heap.size w w' := by
  have hb : ∀ o p q d, Below w.heap.size w ((((w.alloc o).alloc p).alloc q).drewN d) := fun o p q d => below_drewN ((((Below.refl _ w).alloc (Nat.le_refl _) o).alloc (by simp) p).alloc (by simp; omega) q) d
  have HB := Lib.hid hb
  clear hb
  rcases hty with rfl | rfl
  all_goals
    go_enter Tryd.func42, Tryd.ntmps42
    go_wp2_with fail
    all_goals try (go_region; go_wp2_with fail)
    exact bodyPost_ret (v := .agg #[.int .i64 _, .int .i64 st, .bool false, .string da, .int .i64 0, .int .i64 0, .int .i64 0, .bool false, .int .i64 0, .int .i64 0, .int .i64 0, .slice none 0 0]) (by simp [results, Tryd.results42, go_sem]) rfl ⟨rfl, by first | exact HB.out _ _ _ 0 | exact HB.out _ _ _ _⟩

set_option maxRecDepth 100000 in
set_option maxHeartbeats 3200000 in
theorem only_9 (ty st : Int) (en : Bool) (da : ByteArray) (ki on we : Int) (ex : Bool) (co la n : Int) (pv : Value) (hty : ty = 9) (w : World) : Calls Tryd.prog 42 #[.agg #[.int .i64 ty, .int .i64 st, .bool en, .string da, .int .i64 ki, .int .i64 on, .int .i64 we, .bool ex, .int .i64 co, .int .i64 la, .int .i64 n, pv]] w fun e w' => e = .returned (.agg #[.int .i64 ty, .int .i64 st, .bool false, .string ⟨#[]⟩, .int .i64 0, .int .i64 0, .int .i64 0, .bool false, .int .i64 co, .int .i64 la, .int .i64 0, .slice none 0 0]) ∧ Below w.heap.size w w' := by
  have hb : ∀ o p q d, Below w.heap.size w ((((w.alloc o).alloc p).alloc q).drewN d) := fun o p q d => below_drewN ((((Below.refl _ w).alloc (Nat.le_refl _) o).alloc (by simp) p).alloc (by simp; omega) q) d
  have HB := Lib.hid hb
  clear hb
  rcases hty with rfl
  all_goals
    go_enter Tryd.func42, Tryd.ntmps42
    go_wp2_with fail
    all_goals try (go_region; go_wp2_with fail)
    exact bodyPost_ret (v := .agg #[.int .i64 _, .int .i64 st, .bool false, .string ⟨#[]⟩, .int .i64 0, .int .i64 0, .int .i64 0, .bool false, .int .i64 co, .int .i64 la, .int .i64 0, .slice none 0 0]) (by simp [results, Tryd.results42, go_sem]) rfl ⟨rfl, by first | exact HB.out _ _ _ 0 | exact HB.out _ _ _ _⟩

set_option maxRecDepth 100000 in
set_option maxHeartbeats 3200000 in
theorem only_1011 (ty st : Int) (en : Bool) (da : ByteArray) (ki on we : Int) (ex : Bool) (co la n : Int) (pv : Value) (hty : ty = 10 ∨ ty = 11) (w : World) : Calls Tryd.prog 42 #[.agg #[.int .i64 ty, .int .i64 st, .bool en, .string da, .int .i64 ki, .int .i64 on, .int .i64 we, .bool ex, .int .i64 co, .int .i64 la, .int .i64 n, pv]] w fun e w' => e = .returned (.agg #[.int .i64 ty, .int .i64 st, .bool false, .string ⟨#[]⟩, .int .i64 0, .int .i64 0, .int .i64 0, .bool false, .int .i64 0, .int .i64 0, .int .i64 n, .slice none 0 0]) ∧ Below w.heap.size w w' := by
  have hb : ∀ o p q d, Below w.heap.size w ((((w.alloc o).alloc p).alloc q).drewN d) := fun o p q d => below_drewN ((((Below.refl _ w).alloc (Nat.le_refl _) o).alloc (by simp) p).alloc (by simp; omega) q) d
  have HB := Lib.hid hb
  clear hb
  rcases hty with rfl | rfl
  all_goals
    go_enter Tryd.func42, Tryd.ntmps42
    go_wp2_with fail
    all_goals try (go_region; go_wp2_with fail)
    exact bodyPost_ret (v := .agg #[.int .i64 _, .int .i64 st, .bool false, .string ⟨#[]⟩, .int .i64 0, .int .i64 0, .int .i64 0, .bool false, .int .i64 0, .int .i64 0, .int .i64 n, .slice none 0 0]) (by simp [results, Tryd.results42, go_sem]) rfl ⟨rfl, by first | exact HB.out _ _ _ 0 | exact HB.out _ _ _ _⟩

end Go.Proofs.YtebiidfpgdolnaaDoor.Dmp
