import Derived.Test.YtebiidfpgdolnaaDoorMa
import Derived.Test.YtebiidfpgdolnaaDoorMp
import Derived.Lib.IndexBytes
namespace Go.Proofs.YtebiidfpgdolnaaDoor.Dmp
open Go.ChangeShapes Go.WideShapes Go.ChangeAt Go.RowKit Go.Deep
set_option linter.unusedVariables false
open Go.Lib
set_option linter.unusedSimpArgs false

/-! Digits. -/
def dg (r : Nat) : UInt8 := UInt8.ofNat (48 + r)
def digL (n : Nat) : List UInt8 := if h : n < 10 then [dg n] else digL (n / 10) ++ [dg (n % 10)]
termination_by n
decreasing_by omega
def digs (n : Nat) : ByteArray := ⟨(digL n).toArray⟩
theorem digL_lt {n : Nat} (h : n < 10) : digL n = [dg n] := by rw [digL]; simp [h]
theorem digL_ge {n : Nat} (h : ¬ n < 10) : digL n = digL (n / 10) ++ [dg (n % 10)] := by rw [digL]; simp [h]
theorem digL_len (k : Nat) : ∀ n, n < 10 ^ k → (digL n).length ≤ k + 1 := by
  induction k with
  | zero => intro n h; have : n < 10 := by omega
            rw [digL_lt this]; simp
  | succ k ih =>
    intro n h
    by_cases h10 : n < 10
    · rw [digL_lt h10]; simp
    · rw [digL_ge h10]
      have := ih (n / 10) (by rw [Nat.pow_succ] at h; omega)
      simp; omega
theorem digs_size {n : Nat} (h : n < 10 ^ 13) : (digs n).size ≤ 14 := by
  have := digL_len 13 n h
  show (digL n).toArray.size ≤ 14
  simpa using this
theorem dig_cut (r : Nat) (h : r < 10) : (⟨#[48, 49, 50, 51, 52, 53, 54, 55, 56, 57]⟩ : ByteArray).extract r (r + 1) = ⟨#[dg r]⟩ := by
  have hc : r = 0 ∨ r = 1 ∨ r = 2 ∨ r = 3 ∨ r = 4 ∨ r = 5 ∨ r = 6 ∨ r = 7 ∨ r = 8 ∨ r = 9 := by omega
  rcases hc with rfl | rfl | rfl | rfl | rfl | rfl | rfl | rfl | rfl | rfl <;> decide
theorem digs_lt {n : Nat} (h : n < 10) : digs n = ⟨#[dg n]⟩ := by unfold digs; rw [digL_lt h]
theorem digs_ge {n : Nat} (h : ¬ n < 10) : digs n = digs (n / 10) ++ ⟨#[dg (n % 10)]⟩ := by
  unfold digs
  rw [digL_ge h]
  apply ByteArray.ext
  simp [ByteArray.data_append]

set_option maxRecDepth 100000 in
set_option maxHeartbeats 1600000 in
theorem digits_any : ∀ (n : Nat), n < 10 ^ 13 → ∀ (w : World), Calls Tryd.prog 48 #[.int .i64 n] w fun e w' => e = .returned (.string (digs n)) ∧ ∃ m, w' = w.drewN m := by
  intro n
  induction n using Nat.strongRecOn with
  | _ n ih =>
    intro hn w
    by_cases h10 : n < 10
    · have hd := digs_lt h10
      have hc := dig_cut n h10
      have HD := Lib.hid (And.intro hd hc)
      have h1 : (n : Int) < 10 := by omega
      have h0 : (0 : Int) ≤ (n : Int) := by omega
      have h2 : (n : Int) + 1 ≤ 10 := by omega
      have hw : IntKind.i64.wrap ((n : Int) + 1) = (n : Int) + 1 := IntWalk.i64_in _ (by omega)
      have h3 : ((n : Int) + 1).toNat = n + 1 := by omega
      clear hd hc ih hn
      go_enter Tryd.func48, Tryd.ntmps48
      go_wp2_with fail
      go_ret
      exact ⟨congrArg (fun s => Ending.returned (Value.string s)) (HD.out.2.trans HD.out.1.symm), 0, rfl⟩
    · have hd := digs_ge h10
      obtain ⟨q, hq⟩ : ∃ q, n / 10 = q := ⟨_, rfl⟩
      obtain ⟨r, hr⟩ : ∃ r, n % 10 = r := ⟨_, rfl⟩
      have hr10 : r < 10 := by omega
      have hc := dig_cut r hr10
      have hih := fun d => Calls.quiet_of (ih q (by omega) (by omega) (w.drewN d))
      have hsz : (digs q).size ≤ 14 := digs_size (by omega)
      have q1 : (n : Int).tdiv 10 = (q : Int) := by rw [← hq]; rfl
      have q2 : (n : Int) / 10 = (q : Int) := by omega
      have r1 : (n : Int).tmod 10 = (r : Int) := by rw [← hr]; rfl
      have r2 : (n : Int) % 10 = (r : Int) := by omega
      rw [hq, hr] at hd
      have HD := Lib.hid (And.intro hd (And.intro hc (And.intro hih hsz)))
      have h1 : ¬ (n : Int) < 10 := by omega
      have h0 : (0 : Int) ≤ (r : Int) := by omega
      have h2 : (r : Int) + 1 ≤ 10 := by omega
      have hw : IntKind.i64.wrap ((r : Int) + 1) = (r : Int) + 1 := IntWalk.i64_in _ (by omega)
      have hwq : IntKind.i64.wrap (q : Int) = (q : Int) := IntWalk.i64_in _ (by omega)
      have hwr : IntKind.i64.wrap (r : Int) = (r : Int) := IntWalk.i64_in _ (by omega)
      have h3 : ((r : Int) + 1).toNat = r + 1 := by omega
      have h4 : r ≤ r + 1 := by omega
      have h5 : r + 1 ≤ 10 := by omega
      have hss : ¬ 9223372036854775807 < (digs q).size + 1 := by omega
      clear hd hc ih hn hih hq hr hsz
      go_enter Tryd.func48, Tryd.ntmps48
      go_wp2_with fail
      go_quiet ((go_at_call 48; exact HD.out.2.2.1 _))
      go_wp2_with fail
      go_ret
      exact ⟨congrArg (fun s => Ending.returned (Value.string s)) (by rw [HD.out.2.1, HD.out.1]), nq, rfl⟩

end Go.Proofs.YtebiidfpgdolnaaDoor.Dmp

namespace Go.Proofs.YtebiidfpgdolnaaDoor.Dmp
open Go.ChangeShapes Go.WideShapes Go.ChangeAt Go.RowKit Go.Deep
set_option linter.unusedVariables false
open Go.Lib
set_option linter.unusedSimpArgs false

/-- A number's digits, below 0 too. -/
def digI (n : Int) : ByteArray := if 0 ≤ n then digs n.toNat else ⟨#[45]⟩ ++ digs n.natAbs

theorem dg_val (r : Nat) (h : r < 10) : (48 + (r : Int)) = (((dg r).toNat : Nat) : Int) := by
  unfold dg
  have : (UInt8.ofNat (48 + r)).toNat = 48 + r := by simp [UInt8.toNat_ofNat']; omega
  rw [this]; omega
/-- One byte, turned back into a text. -/
theorem back1 (c : Int) (u : UInt8) (hc : c = (u.toNat : Int)) (w : World) :
    (convert 64 9 (.slice (some ⟨w.heap.size, 0, none⟩) 1 1)).run Tryd.prog (w.alloc (.cells #[.int .u8 c] 5)) = .ok (.string ⟨#[u]⟩) (w.alloc (.cells #[.int .u8 c] 5)) := by
  subst hc
  refine run_convert_bytes_back _ 64 9 5 _ 1 [u] Tryd.underlying64 Tryd.underlying5 Tryd.underlying9 fun j hj => ?_
  have : j = 0 := by simp at hj; omega
  subst this
  exact (Blk.new w 5 #[.int .u8 (u.toNat : Int)]).cell 0

theorem Below.step {w w1 : World} (h : Below w.heap.size w w1) (o : Obj) : Below w.heap.size w (w1.alloc o) := h.alloc h.size o

set_option maxRecDepth 100000 in
set_option maxHeartbeats 1600000 in
theorem rdigits_pos : ∀ (n : Nat), n < 9223372036854775808 → ∀ (w : World), Calls Tryd.prog 27 #[.int .i64 n] w fun e w' => e = .returned (.string (digs n)) ∧ Below w.heap.size w w' := by
  intro n
  induction n using Nat.strongRecOn with
  | _ n ih =>
    intro hn w
    by_cases h10 : n < 10
    · have hd := digs_lt h10
      have hbk := back1 (48 + (n : Int)) (dg n) (dg_val n h10)
      have hbe : ∀ o, Below w.heap.size w (w.alloc o) := fun o => Below.step (Below.refl _ _) o
      have HD := Lib.hid (And.intro hd hbe)
      have h1 : ¬ (n : Int) < 0 := by omega
      have h2 : ¬ (10 : Int) ≤ (n : Int) := by omega
      have r2 : (n : Int) % 10 = (n : Int) := by omega
      have r1 : (n : Int).tmod 10 = (n : Int) := by rw [Int.tmod_eq_emod_of_nonneg (by omega)]; exact r2
      have hw : IntKind.i64.wrap (48 + (n : Int)) = 48 + (n : Int) := IntWalk.i64_in _ (by omega)
      clear hd ih hn hbe
      go_enter Tryd.func27, Tryd.ntmps27
      go_wp2_with fail
      go_ret
      first
        | exact ⟨congrArg (fun s => Ending.returned (Value.string s)) HD.out.1.symm, HD.out.2 _⟩
        | exact ⟨congrArg (fun s => Ending.returned (Value.string s)) ((ByteArray.empty_append).trans HD.out.1.symm), HD.out.2 _⟩
    · have hd := digs_ge h10
      obtain ⟨q, hq⟩ : ∃ q, n / 10 = q := ⟨_, rfl⟩
      obtain ⟨r, hr⟩ : ∃ r, n % 10 = r := ⟨_, rfl⟩
      have hr10 : r < 10 := by omega
      have hih := ih q (by omega) (by omega)
      have hsz : (digs q).size ≤ 30 := by
        have := digL_len 19 q (by omega)
        show (digL q).toArray.size ≤ 30
        simp; omega
      have hbk := back1 (48 + (r : Int)) (dg r) (dg_val r hr10)
      have h1 : ¬ (n : Int) < 0 := by omega
      have h2 : (10 : Int) ≤ (n : Int) := by omega
      have q2 : (n : Int) / 10 = (q : Int) := by omega
      have r2 : (n : Int) % 10 = (r : Int) := by omega
      have q1 : (n : Int).tdiv 10 = (q : Int) := by rw [Int.tdiv_eq_ediv_of_nonneg (by omega)]; exact q2
      have r1 : (n : Int).tmod 10 = (r : Int) := by rw [Int.tmod_eq_emod_of_nonneg (by omega)]; exact r2
      have hw : IntKind.i64.wrap (48 + (r : Int)) = 48 + (r : Int) := IntWalk.i64_in _ (by omega)
      have hwq : IntKind.i64.wrap (q : Int) = (q : Int) := IntWalk.i64_in _ (by omega)
      have hss : ¬ 9223372036854775807 < (digs q).size + 1 := by omega
      rw [hq, hr] at hd
      have HD := Lib.hid (And.intro hd hih)
      have h3 : (0 : Int) ≤ (r : Int) := by omega
      have h4 : (r : Int) < 10 := by omega
      clear hd ih hn hih hq hr hsz
      go_enter Tryd.func27, Tryd.ntmps27
      go_wp2_with fail
      refine (HD.out.2 _).mono ?_
      rintro e w1 ⟨rfl, hm1⟩
      have hbe := fun o => Below.step hm1 o
      have HB := Lib.hid hbe
      clear hbe hm1
      go_wp2_with fail
      go_ret
      exact ⟨congrArg (fun s => Ending.returned (Value.string s)) HD.out.1.symm, HB.out _⟩

set_option maxRecDepth 100000 in
set_option maxHeartbeats 1600000 in
theorem rdigits_neg : ∀ (a : Nat), 1 ≤ a → a ≤ 9223372036854775808 → ∀ (w : World), Calls Tryd.prog 27 #[.int .i64 (-(a : Int))] w fun e w' => e = .returned (.string (⟨#[45]⟩ ++ digs a)) ∧ Below w.heap.size w w' := by
  intro a
  induction a using Nat.strongRecOn with
  | _ a ih =>
    intro h1a ha w
    obtain ⟨x, hx⟩ : ∃ x : Int, x = -(a : Int) := ⟨_, rfl⟩
    obtain ⟨q, hq⟩ : ∃ q, a / 10 = q := ⟨_, rfl⟩
    obtain ⟨r, hr⟩ : ∃ r, a % 10 = r := ⟨_, rfl⟩
    have hr10 : r < 10 := by omega
    have hbk := back1 (48 + (r : Int)) (dg r) (dg_val r hr10)
    have hw : IntKind.i64.wrap (48 + (r : Int)) = 48 + (r : Int) := IntWalk.i64_in _ (by omega)
    have r1 : x.tmod 10 = -(r : Int) := by rw [hx, Int.neg_tmod, Int.tmod_eq_emod_of_nonneg (by omega)]; omega
    have q1 : x.tdiv 10 = -(q : Int) := by rw [hx, Int.neg_tdiv, Int.tdiv_eq_ediv_of_nonneg (by omega)]; omega
    have hwr : IntKind.i64.wrap (-(r : Int)) = -(r : Int) := IntWalk.i64_in _ (by omega)
    have hwq : IntKind.i64.wrap (-(q : Int)) = -(q : Int) := IntWalk.i64_in _ (by omega)
    have hwd : IntKind.i64.wrap (r : Int) = (r : Int) := IntWalk.i64_in _ (by omega)
    have h1 : x < 0 := by omega
    have h3 : (0 : Int) ≤ (r : Int) := by omega
    have h4 : (r : Int) < 10 := by omega
    rw [← hx]
    by_cases h10 : a < 10
    · have hd : (⟨#[45]⟩ : ByteArray) ++ digs a = ⟨#[45]⟩ ++ ⟨#[dg r]⟩ := by rw [digs_lt h10]; have : r = a := by omega
                                                                             rw [this]
      have hbe : ∀ o, Below w.heap.size w (w.alloc o) := fun o => Below.step (Below.refl _ _) o
      have HD := Lib.hid (And.intro hd hbe)
      have h2 : ¬ x ≤ -10 := by omega
      clear hd hbe hx hq hr ih
      go_enter Tryd.func27, Tryd.ntmps27
      go_wp2_with fail
      go_ret
      exact ⟨congrArg (fun s => Ending.returned (Value.string s)) HD.out.1.symm, HD.out.2 _⟩
    · have hd : (⟨#[45]⟩ : ByteArray) ++ digs a = (⟨#[45]⟩ ++ digs q) ++ ⟨#[dg r]⟩ := by rw [digs_ge h10, hq, hr, ByteArray.append_assoc]
      have hih := ih q (by omega) (by omega) (by omega)
      have hsz : (digs q).size ≤ 30 := by
        have := digL_len 19 q (by omega)
        show (digL q).toArray.size ≤ 30
        simp; omega
      have hsz2 : ((⟨#[45]⟩ : ByteArray) ++ digs q).size ≤ 31 := by rw [ByteArray.size_append]; show 1 + (digs q).size ≤ 31; omega
      obtain ⟨sq, hsq⟩ : ∃ sq, (⟨#[45]⟩ : ByteArray) ++ digs q = sq := ⟨_, rfl⟩
      rw [hsq] at hsz2 hih hd
      have hss : ¬ 9223372036854775807 < sq.size + 1 := by omega
      have HD := Lib.hid (And.intro hd hih)
      have h2 : x ≤ -10 := by omega
      clear hd hx hq hr ih hih hsz hsq
      go_enter Tryd.func27, Tryd.ntmps27
      go_wp2_with fail
      refine (HD.out.2 _).mono ?_
      rintro e w1 ⟨rfl, hm1⟩
      have hbe := fun o => Below.step hm1 o
      have HB := Lib.hid hbe
      clear hbe hm1
      go_wp2_with fail
      go_ret
      exact ⟨congrArg (fun s => Ending.returned (Value.string s)) HD.out.1.symm, HB.out _⟩

theorem rdigits_any (n : Int) (h0 : -9223372036854775808 ≤ n) (h1 : n < 9223372036854775808) (w : World) : Calls Tryd.prog 27 #[.int .i64 n] w fun e w' => e = .returned (.string (digI n)) ∧ Below w.heap.size w w' := by
  unfold digI
  by_cases h : 0 ≤ n
  · rw [if_pos h]
    have := rdigits_pos n.toNat (by omega) w
    rw [show ((n.toNat : Nat) : Int) = n by omega] at this
    exact this
  · rw [if_neg h]
    have := rdigits_neg n.natAbs (by omega) (by omega) w
    rw [show (-(n.natAbs : Nat) : Int) = n by omega] at this
    exact this

end Go.Proofs.YtebiidfpgdolnaaDoor.Dmp

namespace Go.Proofs.YtebiidfpgdolnaaDoor.Dmp
open Go.ChangeShapes Go.WideShapes Go.ChangeAt Go.RowKit Go.Deep
set_option linter.unusedVariables false
open Go.Lib
set_option linter.unusedSimpArgs false

def pkB (b : Bool) (x y : ByteArray) : ByteArray := match b with | true => x | false => y
theorem pick_any (b : Bool) (x y : ByteArray) (w : World) : Calls Tryd.prog 49 #[.bool b, .string x, .string y] w fun e w' => e = .returned (.string (pkB b x y)) ∧ w' = w := by
  cases b
  all_goals
    go_enter Tryd.func49, Tryd.ntmps49
    go_wp2_with fail
    go_ret
    exact ⟨rfl, rfl⟩

def endB (b : Bool) : ByteArray := if b then ⟨#[32, 101, 110, 100]⟩ else ⟨#[32, 109, 111, 114, 101]⟩
theorem end_any (b : Bool) (w : World) : Calls Tryd.prog 29 #[.bool b] w fun e w' => e = .returned (.string (endB b)) ∧ w' = w := by
  cases b
  all_goals
    go_enter Tryd.func29, Tryd.ntmps29
    go_wp2_with fail
    go_ret
    exact ⟨rfl, rfl⟩

section
variable (ty st : Int) (en : Bool) (da : ByteArray) (ki on we : Int) (ex : Bool) (co la n : Int) (pv : Value) (ps : List (Int × Int))
def lightB (da : ByteArray) (k : Nat) : Bool := decide (da.size < 600) && decide (k < 20)
set_option maxRecDepth 100000 in
set_option maxHeartbeats 1600000 in
theorem light_any (w : World) (hP : Ps w pv ps) : Calls Tryd.prog 7 #[.agg #[.int .i64 ty, .int .i64 st, .bool en, .string da, .int .i64 ki, .int .i64 on, .int .i64 we, .bool ex, .int .i64 co, .int .i64 la, .int .i64 n, pv]] w fun e w' => e = .returned (.bool (lightB da ps.length)) ∧ Below w.heap.size w w' := by
  have hb : ∀ o, Below w.heap.size w (w.alloc o) := fun o => (Below.refl _ w).alloc (Nat.le_refl _) o
  have HB := Lib.hid hb
  clear hb
  obtain ⟨ao, cap, rfl, hcap, -, -⟩ := hP.cap_of
  obtain ⟨m, hm⟩ : ∃ m, ps.length = m := ⟨_, rfl⟩
  rw [hm]
  rw [hm] at hcap
  clear hP
  have hf : lightB da m = (decide (da.size < 600) && decide (m < 20)) := rfl
  rw [hf]
  have HC := Lib.hid hcap
  clear hf hcap hm
  by_cases h1 : da.size < 600
  · have h2 : (da.size : Int) < 600 := by omega
    by_cases h3 : m < 20
    · have h4 : (m : Int) < 20 := by omega
      go_enter Tryd.func7, Tryd.ntmps7
      go_wp2_with fail
      go_ret
      exact ⟨retb (by simp [h1, h3]), HB.out _⟩
    · have h4 : ¬ (m : Int) < 20 := by omega
      go_enter Tryd.func7, Tryd.ntmps7
      go_wp2_with fail
      go_ret
      exact ⟨retb (by simp [h1, h3]), HB.out _⟩
  · have h2 : ¬ (da.size : Int) < 600 := by omega
    go_enter Tryd.func7, Tryd.ntmps7
    go_wp2_with fail
    go_ret
    exact ⟨retb (by simp [h1]), HB.out _⟩
end

/-! Hexadecimal digits. -/
def hxd (r : Nat) : UInt8 := UInt8.ofNat (if r < 10 then 48 + r else 87 + r)
def hx1 (u : UInt8) : List UInt8 := [hxd (u.toNat / 16), hxd (u.toNat % 16)]
def hexL (l : List UInt8) : List UInt8 := l.flatMap hx1
def hexB (s : ByteArray) : ByteArray := if s = ByteArray.empty then ⟨#[61]⟩ else ⟨(hexL s.data.toList).toArray⟩
def HXA : ByteArray := ⟨#[48, 49, 50, 51, 52, 53, 54, 55, 56, 57, 97, 98, 99, 100, 101, 102]⟩
theorem hex_cut (r : Nat) (h : r < 16) : (⟨#[48, 49, 50, 51, 52, 53, 54, 55, 56, 57, 97, 98, 99, 100, 101, 102]⟩ : ByteArray).extract r (r + 1) = ⟨#[hxd r]⟩ := by
  have hc : ∀ r : Fin 16, (⟨#[48, 49, 50, 51, 52, 53, 54, 55, 56, 57, 97, 98, 99, 100, 101, 102]⟩ : ByteArray).extract r.val (r.val + 1) = ⟨#[hxd r.val]⟩ := by decide
  exact hc ⟨r, h⟩
/-- The first k bytes' digits. -/
def hexTo (s : ByteArray) (k : Nat) : ByteArray := ⟨(hexL (s.data.toList.take k)).toArray⟩
theorem hexL_len (l : List UInt8) : (hexL l).length = 2 * l.length := by
  induction l with
  | nil => rfl
  | cons a l ih => show (hx1 a ++ hexL l).length = _; rw [List.length_append, ih]; simp [hx1]; omega
theorem hexTo_size (s : ByteArray) (k : Nat) (hk : k ≤ s.size) : (hexTo s k).size = 2 * k := by
  show (hexL (s.data.toList.take k)).toArray.size = _
  have : s.data.toList.length = s.size := by simp
  simp [hexL_len]; omega
theorem hexTo_next (s : ByteArray) (k : Nat) (hk : k < s.size) : hexTo s (k + 1) = (hexTo s k ++ ⟨#[hxd (s[k].toNat / 16)]⟩) ++ ⟨#[hxd (s[k].toNat % 16)]⟩ := by
  unfold hexTo
  have : s.data.toList.take (k + 1) = s.data.toList.take k ++ [s[k]] := by
    rw [List.take_add_one, Lib.data_getElem? s k hk]; rfl
  rw [this]
  apply ByteArray.ext
  simp [hexL, hx1, ByteArray.data_append]
theorem hexTo_all (s : ByteArray) (h : s ≠ ByteArray.empty) : hexTo s s.size = hexB s := by
  unfold hexTo hexB
  rw [if_neg h]
  have : s.data.toList.length = s.size := by simp
  rw [List.take_of_length_le (by omega)]

set_option maxRecDepth 100000 in
set_option maxHeartbeats 3200000 in
theorem hexes_any (s : ByteArray) (hs : s.size ≤ 100000) (w : World) : Calls Tryd.prog 28 #[.string s] w fun e w' => e = .returned (.string (hexB s)) ∧ ∃ m, w' = w.drewN m := by
  by_cases he : s = ByteArray.empty
  · subst he
    go_enter Tryd.func28, Tryd.ntmps28
    go_wp2_with fail
    go_ret
    exact ⟨rfl, 0, rfl⟩
  · have heb : s.toList.isEmpty = false := by
      cases h : s.toList with
      | nil => exact absurd ((list_iff s ByteArray.empty).mp (by rw [h]; simp)) he
      | cons a l => rfl
    have HE := Lib.hid he
    clear he
    go_enter Tryd.func28, Tryd.ntmps28
    go_wp2_with fail
    go_loopw [4, 3] (fun i o wr => ∃ k : Nat, k ≤ s.size ∧ i = .int .i64 k ∧ o = .string (hexTo s k) ∧ ∃ d, wr = w.drewN d) (fun i _ _ => s.size - (intOf i).toNat)
    case atStart => exact ⟨0, Nat.zero_le _, rfl, rfl, 0, rfl⟩
    case round =>
      obtain ⟨k, hk, rfl, rfl, d, hb⟩ := hrel
      rcases (show k < s.size ∨ k = s.size by omega) with hlt | rfl
      · have k0 : (0 : Int) ≤ (k : Int) := by omega
        have k1 : (k : Int) < (s.size : Int) := by omega
        obtain ⟨h, hh⟩ : ∃ h, s[k].toNat / 16 = h := ⟨_, rfl⟩
        obtain ⟨l, hl⟩ : ∃ l, s[k].toNat % 16 = l := ⟨_, rfl⟩
        have hu : s[k].toNat < 256 := UInt8.toNat_lt _
        have h16 : h < 16 := by omega
        have l16 : l < 16 := by omega
        have hnx := hexTo_next s k hlt
        rw [hh, hl, ← hex_cut h h16, ← hex_cut l l16] at hnx
        have hsz := hexTo_size s k hk
        have w1 : IntKind.i64.wrap (s[k].toNat : Int) = (s[k].toNat : Int) := IntWalk.i64_in _ (by omega)
        have q1 : (s[k].toNat : Int).tdiv 16 = (h : Int) := by rw [Int.tdiv_eq_ediv_of_nonneg (by omega)]; omega
        have q2 : (s[k].toNat : Int) / 16 = (h : Int) := by omega
        have r1 : (s[k].toNat : Int).tmod 16 = (l : Int) := by rw [Int.tmod_eq_emod_of_nonneg (by omega)]; omega
        have r2 : (s[k].toNat : Int) % 16 = (l : Int) := by omega
        have w2 : IntKind.i64.wrap (h : Int) = (h : Int) := IntWalk.i64_in _ (by omega)
        have w3 : IntKind.i64.wrap (l : Int) = (l : Int) := IntWalk.i64_in _ (by omega)
        have w4 : IntKind.i64.wrap ((h : Int) + 1) = (h : Int) + 1 := IntWalk.i64_in _ (by omega)
        have w5 : IntKind.i64.wrap ((l : Int) + 1) = (l : Int) + 1 := IntWalk.i64_in _ (by omega)
        have w6 : IntKind.i64.wrap ((k : Int) + 1) = (k : Int) + 1 := IntWalk.i64_in _ (by omega)
        have n1 : ((h : Int) + 1).toNat = h + 1 := by omega
        have n2 : ((l : Int) + 1).toNat = l + 1 := by omega
        have a0 : (0 : Int) ≤ (h : Int) := by omega
        have a1 : (h : Int) + 1 ≤ 16 := by omega
        have a2 : h ≤ h + 1 := by omega
        have a3 : h + 1 ≤ 16 := by omega
        have b0 : (0 : Int) ≤ (l : Int) := by omega
        have b1 : (l : Int) + 1 ≤ 16 := by omega
        have b2 : l ≤ l + 1 := by omega
        have b3 : l + 1 ≤ 16 := by omega
        have c1 : ((⟨#[48, 49, 50, 51, 52, 53, 54, 55, 56, 57, 97, 98, 99, 100, 101, 102]⟩ : ByteArray).extract h (h + 1)).size = 1 := by rw [hex_cut h h16]; rfl
        have c2 : ((⟨#[48, 49, 50, 51, 52, 53, 54, 55, 56, 57, 97, 98, 99, 100, 101, 102]⟩ : ByteArray).extract l (l + 1)).size = 1 := by rw [hex_cut l l16]; rfl
        have s1 : ¬ 9223372036854775807 < (hexTo s k).size + 1 := by omega
        have s2 : ¬ 9223372036854775807 < (hexTo s k).size + 1 + 1 := by omega
        have HK := Lib.hid (And.intro hnx (And.intro hb hlt))
        clear hnx hh hl hu hb hsz h16 l16 hk
        go_wp2_with fail
        go_quiet (fail)
        go_wp2_with fail
        refine ⟨⟨k + 1, HK.out.2.2, rfl, congrArg Value.string HK.out.1.symm, d + nq, by rw [HK.out.2.1, World.drewN_drewN]⟩, ?_⟩
        have := HK.out.2.2
        show s.size - ((k : Int) + 1).toNat < s.size - (k : Int).toNat
        omega
      · have k1 : ¬ ((s.size : Nat) : Int) < (s.size : Int) := by omega
        have ha := hexTo_all s HE.out
        have HB := Lib.hid (And.intro ha hb)
        clear ha hb
        go_wp2_with fail
        go_ret
        exact ⟨congrArg (fun s => Ending.returned (Value.string s)) HB.out.1, d, HB.out.2⟩

end Go.Proofs.YtebiidfpgdolnaaDoor.Dmp
