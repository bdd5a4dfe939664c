import Derived.Test.YtebiidfpgdolnaaDoorMr
import Derived.Deep.RegionHeld3
import Derived.BigQuiet
namespace Go.Proofs.YtebiidfpgdolnaaDoor.Dmp
open Go.ChangeShapes Go.WideShapes Go.ChangeAt Go.RowKit Go.Deep
set_option linter.unusedVariables false
open Go.Lib
set_option linter.unusedSimpArgs false

theorem hexB_size (s : ByteArray) : (hexB s).size ≤ 2 * s.size + 1 := by
  unfold hexB
  split
  · have : (⟨#[61]⟩ : ByteArray).size = 1 := rfl
    omega
  · show (hexL s.data.toList).toArray.size ≤ _
    have : s.data.toList.length = s.size := by simp
    simp [hexL_len]
theorem end_quiet (b : Bool) (w : World) : Calls Tryd.prog 29 #[.bool b] w fun e w' => e = .returned (.string (endB b)) ∧ ∃ m, w' = w.drewN m :=
  (end_any b w).mono fun e w' h => ⟨h.1, 0, by rw [h.2]; rfl⟩
def idB (st : Int) : ByteArray := ⟨#[32]⟩ ++ dgN st
theorem idB_size {st : Int} (h : N31 st) : (idB st).size ≤ 15 := by
  have a1 := dgN_size h
  unfold idB
  rw [ByteArray.size_append]
  have : (⟨#[32]⟩ : ByteArray).size = 1 := rfl
  omega
def setOne (s : ByteArray) (p : Int × Int) : ByteArray := (((s ++ ⟨#[32]⟩) ++ dgN p.1) ++ ⟨#[58]⟩) ++ dgN p.2
def setsB (ps : List (Int × Int)) : ByteArray := ps.foldl setOne ⟨#[115, 101, 116, 116, 105, 110, 103, 115]⟩
/-- A right frame's line, as the reference puts it together. -/
def lineB (f : Fr) : ByteArray :=
  if f.ty = 0 then ((⟨#[100, 97, 116, 97]⟩ ++ idB f.st) ++ ⟨#[32]⟩ ++ hexB f.da) ++ endB f.en
  else if f.ty = 1 then ((⟨#[105, 116, 101, 109]⟩ ++ idB f.st) ++ ⟨#[32]⟩ ++ hexB f.da) ++ endB f.en
  else if f.ty = 2 then (if f.ki = 1 then ((⟨#[111, 112, 101, 110]⟩ ++ idB f.st) ++ ⟨#[32, 98, 121, 116, 101, 115]⟩) ++ ldepB f.on f.we f.ex else ((⟨#[111, 112, 101, 110]⟩ ++ idB f.st) ++ ⟨#[32, 105, 116, 101, 109, 115]⟩) ++ ldepB f.on f.we f.ex)
  else if f.ty = 3 then (⟨#[112, 114, 105, 111, 114, 105, 116, 121]⟩ ++ idB f.st) ++ ldepB f.on f.we f.ex
  else if f.ty = 4 then ((⟨#[114, 101, 115, 101, 116]⟩ ++ idB f.st) ++ ⟨#[32]⟩) ++ dgN f.co
  else if f.ty = 5 then setsB f.ps
  else if f.ty = 6 then ⟨#[97, 99, 107]⟩
  else if f.ty = 7 then ⟨#[112, 105, 110, 103, 32]⟩ ++ hexB f.da
  else if f.ty = 8 then ⟨#[112, 111, 110, 103, 32]⟩ ++ hexB f.da
  else if f.ty = 9 then ((⟨#[103, 111, 97, 119, 97, 121, 32]⟩ ++ dgN f.la) ++ ⟨#[32]⟩) ++ dgN f.co
  else if f.ty = 10 then ((⟨#[119, 105, 110, 100, 111, 119]⟩ ++ idB f.st) ++ ⟨#[32]⟩) ++ dgN f.n
  else ((⟨#[114, 101, 113, 117, 101, 115, 116]⟩ ++ idB f.st) ++ ⟨#[32]⟩) ++ dgN f.n
/-- The numbers of a frame that may be. -/
def FitsB (f : Fr) : Prop := N31 f.st ∧ N31 f.on ∧ N31 f.we ∧ N31 f.co ∧ N31 f.la ∧ N31 f.n ∧ f.da.size ≤ 256 ∧ f.ps.length ≤ 8 ∧ ∀ p ∈ f.ps, N31 p.1 ∧ N31 p.2

section
variable (ty st : Int) (en : Bool) (da : ByteArray) (ki on we : Int) (ex : Bool) (co la n : Int) (pv : Value) (ps : List (Int × Int))
set_option maxRecDepth 100000 in
set_option maxHeartbeats 3200000 in
theorem line_0 (hF : FitsB ⟨0, st, en, da, ki, on, we, ex, co, la, n, ps⟩) (w : World) : Calls Tryd.prog 11 #[.agg #[.int .i64 0, .int .i64 st, .bool en, .string da, .int .i64 ki, .int .i64 on, .int .i64 we, .bool ex, .int .i64 co, .int .i64 la, .int .i64 n, pv]] w fun e w' => e = .returned (.string (lineB ⟨0, st, en, da, ki, on, we, ex, co, la, n, ps⟩)) ∧ Below w.heap.size w w' := by
  obtain ⟨f1, f2, f3, f4, f5, f6, f7, f8, f9⟩ := hF
  simp only at f1 f2 f3 f4 f5 f6 f7 f8 f9
  have d1 := rdg_any st f1
  have z1 := dgN_size f1
  have hbl := Blk.new w 26 #[.int .i64 0, .int .i64 st, .bool en, .string da, .int .i64 ki, .int .i64 on, .int .i64 we, .bool ex, .int .i64 co, .int .i64 la, .int .i64 n, pv]
  have hbe := fun o => Below.step (Below.refl w.heap.size w) o
  have z3 := hexB_size da
  have z4 : (endB en).size ≤ 5 := by cases en <;> decide
  have hr : lineB ⟨0, st, en, da, ki, on, we, ex, co, la, n, ps⟩ = ((⟨#[100, 97, 116, 97]⟩ ++ (⟨#[32]⟩ ++ dgN st)) ++ ⟨#[32]⟩ ++ hexB da) ++ endB en := rfl
  rw [hr]
  obtain ⟨s1, hs1⟩ : ∃ s, dgN st = s := ⟨_, rfl⟩
  obtain ⟨s3, hs3⟩ : ∃ s, hexB da = s := ⟨_, rfl⟩
  obtain ⟨s4, hs4⟩ : ∃ s, endB en = s := ⟨_, rfl⟩
  have hq := fun w d => Calls.quiet_of (hexes_any da (by omega) (World.drewN w d))
  have he := fun w d => Calls.quiet_of (end_quiet en (World.drewN w d))
  rw [hs1] at d1 z1
  rw [hs3] at z3 hq
  rw [hs4] at z4 he
  rw [hs1, hs3, hs4]
  have HX := Lib.hid (And.intro d1 (And.intro hbl (And.intro hbe (And.intro hq he))))
  clear d1 hbl hbe hq he hs1 hs3 hs4 hr f1 f2 f3 f4 f5 f6 f8 f9
  have t1 : ¬ 9223372036854775807 < 1 + s1.size := by omega
  have t2 : ¬ 9223372036854775807 < 4 + (1 + s1.size) := by omega
  have t3 : ¬ 9223372036854775807 < 4 + (1 + s1.size) + 1 := by omega
  have t4 : ¬ 9223372036854775807 < 4 + (1 + s1.size) + 1 + s3.size := by omega
  have t5 : ¬ 9223372036854775807 < 4 + (1 + s1.size) + 1 + s3.size + s4.size := by omega
  clear z1 z3 z4 f7
  go_enter Tryd.func11, Tryd.ntmps11
  go_wp2_with fail
  refine (HX.out.1 _).mono ?_
  rintro e1 w1 ⟨rfl, hm1⟩
  have k1 := HX.out.2.1.below hm1 HX.out.2.1.lt
  have hbA : Below w.heap.size w w1 := (HX.out.2.2.1 _).trans (hm1.mono (HX.out.2.2.1 _).size)
  have c0 := k1.cell 0
  have c2 := k1.cell 2
  have c3 := k1.cell 3
  have HB := Lib.hid hbA
  clear hbA k1 hm1
  go_wp2_with fail
  go_quiet (first | (go_at_call 28; exact HX.out.2.2.2.1 _ _) | (go_at_call 29; exact HX.out.2.2.2.2 _ _))
  go_wp2_with fail
  go_ret
  exact ⟨rfl, below_drewN HB.out _⟩

set_option maxRecDepth 100000 in
set_option maxHeartbeats 3200000 in
theorem line_1 (hF : FitsB ⟨1, st, en, da, ki, on, we, ex, co, la, n, ps⟩) (w : World) : Calls Tryd.prog 11 #[.agg #[.int .i64 1, .int .i64 st, .bool en, .string da, .int .i64 ki, .int .i64 on, .int .i64 we, .bool ex, .int .i64 co, .int .i64 la, .int .i64 n, pv]] w fun e w' => e = .returned (.string (lineB ⟨1, st, en, da, ki, on, we, ex, co, la, n, ps⟩)) ∧ Below w.heap.size w w' := by
  obtain ⟨f1, f2, f3, f4, f5, f6, f7, f8, f9⟩ := hF
  simp only at f1 f2 f3 f4 f5 f6 f7 f8 f9
  have d1 := rdg_any st f1
  have z1 := dgN_size f1
  have hbl := Blk.new w 26 #[.int .i64 1, .int .i64 st, .bool en, .string da, .int .i64 ki, .int .i64 on, .int .i64 we, .bool ex, .int .i64 co, .int .i64 la, .int .i64 n, pv]
  have hbe := fun o => Below.step (Below.refl w.heap.size w) o
  have z3 := hexB_size da
  have z4 : (endB en).size ≤ 5 := by cases en <;> decide
  have hr : lineB ⟨1, st, en, da, ki, on, we, ex, co, la, n, ps⟩ = ((⟨#[105, 116, 101, 109]⟩ ++ (⟨#[32]⟩ ++ dgN st)) ++ ⟨#[32]⟩ ++ hexB da) ++ endB en := rfl
  rw [hr]
  obtain ⟨s1, hs1⟩ : ∃ s, dgN st = s := ⟨_, rfl⟩
  obtain ⟨s3, hs3⟩ : ∃ s, hexB da = s := ⟨_, rfl⟩
  obtain ⟨s4, hs4⟩ : ∃ s, endB en = s := ⟨_, rfl⟩
  have hq := fun w d => Calls.quiet_of (hexes_any da (by omega) (World.drewN w d))
  have he := fun w d => Calls.quiet_of (end_quiet en (World.drewN w d))
  rw [hs1] at d1 z1
  rw [hs3] at z3 hq
  rw [hs4] at z4 he
  rw [hs1, hs3, hs4]
  have HX := Lib.hid (And.intro d1 (And.intro hbl (And.intro hbe (And.intro hq he))))
  clear d1 hbl hbe hq he hs1 hs3 hs4 hr f1 f2 f3 f4 f5 f6 f8 f9
  have t1 : ¬ 9223372036854775807 < 1 + s1.size := by omega
  have t2 : ¬ 9223372036854775807 < 4 + (1 + s1.size) := by omega
  have t3 : ¬ 9223372036854775807 < 4 + (1 + s1.size) + 1 := by omega
  have t4 : ¬ 9223372036854775807 < 4 + (1 + s1.size) + 1 + s3.size := by omega
  have t5 : ¬ 9223372036854775807 < 4 + (1 + s1.size) + 1 + s3.size + s4.size := by omega
  clear z1 z3 z4 f7
  go_enter Tryd.func11, Tryd.ntmps11
  go_wp2_with fail
  refine (HX.out.1 _).mono ?_
  rintro e1 w1 ⟨rfl, hm1⟩
  have k1 := HX.out.2.1.below hm1 HX.out.2.1.lt
  have hbA : Below w.heap.size w w1 := (HX.out.2.2.1 _).trans (hm1.mono (HX.out.2.2.1 _).size)
  have c0 := k1.cell 0
  have c2 := k1.cell 2
  have c3 := k1.cell 3
  have HB := Lib.hid hbA
  clear hbA k1 hm1
  go_wp2_with fail
  go_quiet (first | (go_at_call 28; exact HX.out.2.2.2.1 _ _) | (go_at_call 29; exact HX.out.2.2.2.2 _ _))
  go_wp2_with fail
  go_ret
  exact ⟨rfl, below_drewN HB.out _⟩

set_option maxRecDepth 100000 in
set_option maxHeartbeats 3200000 in
theorem line_2a (hF : FitsB ⟨2, st, en, da, 1, on, we, ex, co, la, n, ps⟩) (w : World) : Calls Tryd.prog 11 #[.agg #[.int .i64 2, .int .i64 st, .bool en, .string da, .int .i64 1, .int .i64 on, .int .i64 we, .bool ex, .int .i64 co, .int .i64 la, .int .i64 n, pv]] w fun e w' => e = .returned (.string (lineB ⟨2, st, en, da, 1, on, we, ex, co, la, n, ps⟩)) ∧ Below w.heap.size w w' := by
  obtain ⟨f1, f2, f3, f4, f5, f6, f7, f8, f9⟩ := hF
  simp only at f1 f2 f3 f4 f5 f6 f7 f8 f9
  have d1 := rdg_any st f1
  have z1 := dgN_size f1
  have hbl := Blk.new w 26 #[.int .i64 2, .int .i64 st, .bool en, .string da, .int .i64 1, .int .i64 on, .int .i64 we, .bool ex, .int .i64 co, .int .i64 la, .int .i64 n, pv]
  have hbe := fun o => Below.step (Below.refl w.heap.size w) o
  have hr : lineB ⟨2, st, en, da, 1, on, we, ex, co, la, n, ps⟩ = ((⟨#[111, 112, 101, 110]⟩ ++ (⟨#[32]⟩ ++ dgN st)) ++ ⟨#[32, 98, 121, 116, 101, 115]⟩) ++ ldepB on we ex := rfl
  rw [hr]
  obtain ⟨s1, hs1⟩ : ∃ s, dgN st = s := ⟨_, rfl⟩
  obtain ⟨s2, hs2⟩ : ∃ s, ldepB on we ex = s := ⟨_, rfl⟩
  have d2 := fun w => ldep_any on we ex f2 f3 w
  have z2 := ldepB_size f2 f3 ex
  rw [hs1] at d1 z1
  rw [hs2] at d2 z2
  rw [hs1, hs2]
  have HX := Lib.hid (And.intro d1 (And.intro hbl (And.intro hbe d2)))
  clear d1 hbl hbe d2 hs1 hs2 hr f1 f2 f3 f4 f5 f6 f8 f9
  have t0 : ¬ 9223372036854775807 < 1 + s1.size := by omega
  have t1 : ¬ 9223372036854775807 < 4 + (1 + s1.size) := by omega
  have t2 : ¬ 9223372036854775807 < 4 + (1 + s1.size) + 6 := by omega
  have t3 : ¬ 9223372036854775807 < 4 + (1 + s1.size) + 6 + s2.size := by omega
  clear z1 z2 f7
  go_enter Tryd.func11, Tryd.ntmps11
  go_wp2_with fail
  refine (HX.out.1 _).mono ?_
  rintro e1 w1 ⟨rfl, hm1⟩
  have k1 := HX.out.2.1.below hm1 HX.out.2.1.lt
  have hbA : Below w.heap.size w w1 := (HX.out.2.2.1 _).trans (hm1.mono (HX.out.2.2.1 _).size)
  have c0 := k1.cell 0
  have c4 := k1.cell 4
  have c5 := k1.cell 5
  have c6 := k1.cell 6
  have c7 := k1.cell 7
  go_wp2_with fail
  refine (HX.out.2.2.2 _).mono ?_
  rintro e2 w2 ⟨rfl, hm2⟩
  have hbB : Below w.heap.size w w2 := hbA.trans (hm2.mono hbA.size)
  have HB := Lib.hid hbB
  clear hbA hbB hm1 hm2
  go_wp2_with fail
  go_ret
  exact ⟨rfl, HB.out⟩

set_option maxRecDepth 100000 in
set_option maxHeartbeats 3200000 in
theorem line_2b (hF : FitsB ⟨2, st, en, da, ki, on, we, ex, co, la, n, ps⟩) (hki : ki ≠ 1) (w : World) : Calls Tryd.prog 11 #[.agg #[.int .i64 2, .int .i64 st, .bool en, .string da, .int .i64 ki, .int .i64 on, .int .i64 we, .bool ex, .int .i64 co, .int .i64 la, .int .i64 n, pv]] w fun e w' => e = .returned (.string (lineB ⟨2, st, en, da, ki, on, we, ex, co, la, n, ps⟩)) ∧ Below w.heap.size w w' := by
  obtain ⟨f1, f2, f3, f4, f5, f6, f7, f8, f9⟩ := hF
  simp only at f1 f2 f3 f4 f5 f6 f7 f8 f9
  have d1 := rdg_any st f1
  have z1 := dgN_size f1
  have hbl := Blk.new w 26 #[.int .i64 2, .int .i64 st, .bool en, .string da, .int .i64 ki, .int .i64 on, .int .i64 we, .bool ex, .int .i64 co, .int .i64 la, .int .i64 n, pv]
  have hbe := fun o => Below.step (Below.refl w.heap.size w) o
  have hkb : (ki == 1) = false := by simp [hki]
  have hr : lineB ⟨2, st, en, da, ki, on, we, ex, co, la, n, ps⟩ = ((⟨#[111, 112, 101, 110]⟩ ++ (⟨#[32]⟩ ++ dgN st)) ++ ⟨#[32, 105, 116, 101, 109, 115]⟩) ++ ldepB on we ex := by simp [lineB, hki, idB]
  rw [hr]
  obtain ⟨s1, hs1⟩ : ∃ s, dgN st = s := ⟨_, rfl⟩
  obtain ⟨s2, hs2⟩ : ∃ s, ldepB on we ex = s := ⟨_, rfl⟩
  have d2 := fun w => ldep_any on we ex f2 f3 w
  have z2 := ldepB_size f2 f3 ex
  rw [hs1] at d1 z1
  rw [hs2] at d2 z2
  rw [hs1, hs2]
  have HX := Lib.hid (And.intro d1 (And.intro hbl (And.intro hbe d2)))
  clear d1 hbl hbe d2 hs1 hs2 hr hki f1 f2 f3 f4 f5 f6 f8 f9
  have t0 : ¬ 9223372036854775807 < 1 + s1.size := by omega
  have t1 : ¬ 9223372036854775807 < 4 + (1 + s1.size) := by omega
  have t2 : ¬ 9223372036854775807 < 4 + (1 + s1.size) + 6 := by omega
  have t3 : ¬ 9223372036854775807 < 4 + (1 + s1.size) + 6 + s2.size := by omega
  clear z1 z2 f7
  go_enter Tryd.func11, Tryd.ntmps11
  go_wp2_with fail
  refine (HX.out.1 _).mono ?_
  rintro e1 w1 ⟨rfl, hm1⟩
  have k1 := HX.out.2.1.below hm1 HX.out.2.1.lt
  have hbA : Below w.heap.size w w1 := (HX.out.2.2.1 _).trans (hm1.mono (HX.out.2.2.1 _).size)
  have c0 := k1.cell 0
  have c4 := k1.cell 4
  have c5 := k1.cell 5
  have c6 := k1.cell 6
  have c7 := k1.cell 7
  go_wp2_with fail
  refine (HX.out.2.2.2 _).mono ?_
  rintro e2 w2 ⟨rfl, hm2⟩
  have hbB : Below w.heap.size w w2 := hbA.trans (hm2.mono hbA.size)
  have HB := Lib.hid hbB
  clear hbA hbB hm1 hm2
  go_wp2_with fail
  go_ret
  exact ⟨rfl, HB.out⟩

set_option maxRecDepth 100000 in
set_option maxHeartbeats 3200000 in
theorem line_3 (hF : FitsB ⟨3, st, en, da, ki, on, we, ex, co, la, n, ps⟩) (w : World) : Calls Tryd.prog 11 #[.agg #[.int .i64 3, .int .i64 st, .bool en, .string da, .int .i64 ki, .int .i64 on, .int .i64 we, .bool ex, .int .i64 co, .int .i64 la, .int .i64 n, pv]] w fun e w' => e = .returned (.string (lineB ⟨3, st, en, da, ki, on, we, ex, co, la, n, ps⟩)) ∧ Below w.heap.size w w' := by
  obtain ⟨f1, f2, f3, f4, f5, f6, f7, f8, f9⟩ := hF
  simp only at f1 f2 f3 f4 f5 f6 f7 f8 f9
  have d1 := rdg_any st f1
  have z1 := dgN_size f1
  have hbl := Blk.new w 26 #[.int .i64 3, .int .i64 st, .bool en, .string da, .int .i64 ki, .int .i64 on, .int .i64 we, .bool ex, .int .i64 co, .int .i64 la, .int .i64 n, pv]
  have hbe := fun o => Below.step (Below.refl w.heap.size w) o
  have hr : lineB ⟨3, st, en, da, ki, on, we, ex, co, la, n, ps⟩ = (⟨#[112, 114, 105, 111, 114, 105, 116, 121]⟩ ++ (⟨#[32]⟩ ++ dgN st)) ++ ldepB on we ex := rfl
  rw [hr]
  obtain ⟨s1, hs1⟩ : ∃ s, dgN st = s := ⟨_, rfl⟩
  obtain ⟨s2, hs2⟩ : ∃ s, ldepB on we ex = s := ⟨_, rfl⟩
  have d2 := fun w => ldep_any on we ex f2 f3 w
  have z2 := ldepB_size f2 f3 ex
  rw [hs1] at d1 z1
  rw [hs2] at d2 z2
  rw [hs1, hs2]
  have HX := Lib.hid (And.intro d1 (And.intro hbl (And.intro hbe d2)))
  clear d1 hbl hbe d2 hs1 hs2 hr f1 f2 f3 f4 f5 f6 f8 f9
  have t0 : ¬ 9223372036854775807 < 1 + s1.size := by omega
  have t1 : ¬ 9223372036854775807 < 8 + (1 + s1.size) := by omega
  have t2 : ¬ 9223372036854775807 < 8 + (1 + s1.size) + s2.size := by omega
  clear z1 z2 f7
  go_enter Tryd.func11, Tryd.ntmps11
  go_wp2_with fail
  refine (HX.out.1 _).mono ?_
  rintro e1 w1 ⟨rfl, hm1⟩
  have k1 := HX.out.2.1.below hm1 HX.out.2.1.lt
  have hbA : Below w.heap.size w w1 := (HX.out.2.2.1 _).trans (hm1.mono (HX.out.2.2.1 _).size)
  have c0 := k1.cell 0
  have c5 := k1.cell 5
  have c6 := k1.cell 6
  have c7 := k1.cell 7
  go_wp2_with fail
  refine (HX.out.2.2.2 _).mono ?_
  rintro e2 w2 ⟨rfl, hm2⟩
  have hbB : Below w.heap.size w w2 := hbA.trans (hm2.mono hbA.size)
  have HB := Lib.hid hbB
  clear hbA hbB hm1 hm2
  go_wp2_with fail
  go_ret
  exact ⟨rfl, HB.out⟩

set_option maxRecDepth 100000 in
set_option maxHeartbeats 3200000 in
theorem line_4 (hF : FitsB ⟨4, st, en, da, ki, on, we, ex, co, la, n, ps⟩) (w : World) : Calls Tryd.prog 11 #[.agg #[.int .i64 4, .int .i64 st, .bool en, .string da, .int .i64 ki, .int .i64 on, .int .i64 we, .bool ex, .int .i64 co, .int .i64 la, .int .i64 n, pv]] w fun e w' => e = .returned (.string (lineB ⟨4, st, en, da, ki, on, we, ex, co, la, n, ps⟩)) ∧ Below w.heap.size w w' := by
  obtain ⟨f1, f2, f3, f4, f5, f6, f7, f8, f9⟩ := hF
  simp only at f1 f2 f3 f4 f5 f6 f7 f8 f9
  have d1 := rdg_any st f1
  have z1 := dgN_size f1
  have hbl := Blk.new w 26 #[.int .i64 4, .int .i64 st, .bool en, .string da, .int .i64 ki, .int .i64 on, .int .i64 we, .bool ex, .int .i64 co, .int .i64 la, .int .i64 n, pv]
  have hbe := fun o => Below.step (Below.refl w.heap.size w) o
  have hr : lineB ⟨4, st, en, da, ki, on, we, ex, co, la, n, ps⟩ = ((⟨#[114, 101, 115, 101, 116]⟩ ++ (⟨#[32]⟩ ++ dgN st)) ++ ⟨#[32]⟩) ++ dgN co := rfl
  rw [hr]
  obtain ⟨s1, hs1⟩ : ∃ s, dgN st = s := ⟨_, rfl⟩
  obtain ⟨s2, hs2⟩ : ∃ s, dgN co = s := ⟨_, rfl⟩
  have d2 := fun w => rdg_any co f4 w
  have z2 := dgN_size f4
  rw [hs1] at d1 z1
  rw [hs2] at d2 z2
  rw [hs1, hs2]
  have HX := Lib.hid (And.intro d1 (And.intro hbl (And.intro hbe d2)))
  clear d1 hbl hbe d2 hs1 hs2 hr f1 f2 f3 f4 f5 f6 f8 f9
  have t0 : ¬ 9223372036854775807 < 1 + s1.size := by omega
  have t1 : ¬ 9223372036854775807 < 5 + (1 + s1.size) := by omega
  have t2 : ¬ 9223372036854775807 < 5 + (1 + s1.size) + 1 := by omega
  have t3 : ¬ 9223372036854775807 < 5 + (1 + s1.size) + 1 + s2.size := by omega
  clear z1 z2 f7
  go_enter Tryd.func11, Tryd.ntmps11
  go_wp2_with fail
  refine (HX.out.1 _).mono ?_
  rintro e1 w1 ⟨rfl, hm1⟩
  have k1 := HX.out.2.1.below hm1 HX.out.2.1.lt
  have hbA : Below w.heap.size w w1 := (HX.out.2.2.1 _).trans (hm1.mono (HX.out.2.2.1 _).size)
  have c0 := k1.cell 0
  have c8 := k1.cell 8
  go_wp2_with fail
  refine (HX.out.2.2.2 _).mono ?_
  rintro e2 w2 ⟨rfl, hm2⟩
  have hbB : Below w.heap.size w w2 := hbA.trans (hm2.mono hbA.size)
  have HB := Lib.hid hbB
  clear hbA hbB hm1 hm2
  go_wp2_with fail
  go_ret
  exact ⟨rfl, HB.out⟩

set_option maxRecDepth 100000 in
set_option maxHeartbeats 3200000 in
theorem line_10 (hF : FitsB ⟨10, st, en, da, ki, on, we, ex, co, la, n, ps⟩) (w : World) : Calls Tryd.prog 11 #[.agg #[.int .i64 10, .int .i64 st, .bool en, .string da, .int .i64 ki, .int .i64 on, .int .i64 we, .bool ex, .int .i64 co, .int .i64 la, .int .i64 n, pv]] w fun e w' => e = .returned (.string (lineB ⟨10, st, en, da, ki, on, we, ex, co, la, n, ps⟩)) ∧ Below w.heap.size w w' := by
  obtain ⟨f1, f2, f3, f4, f5, f6, f7, f8, f9⟩ := hF
  simp only at f1 f2 f3 f4 f5 f6 f7 f8 f9
  have d1 := rdg_any st f1
  have z1 := dgN_size f1
  have hbl := Blk.new w 26 #[.int .i64 10, .int .i64 st, .bool en, .string da, .int .i64 ki, .int .i64 on, .int .i64 we, .bool ex, .int .i64 co, .int .i64 la, .int .i64 n, pv]
  have hbe := fun o => Below.step (Below.refl w.heap.size w) o
  have hr : lineB ⟨10, st, en, da, ki, on, we, ex, co, la, n, ps⟩ = ((⟨#[119, 105, 110, 100, 111, 119]⟩ ++ (⟨#[32]⟩ ++ dgN st)) ++ ⟨#[32]⟩) ++ dgN n := rfl
  rw [hr]
  obtain ⟨s1, hs1⟩ : ∃ s, dgN st = s := ⟨_, rfl⟩
  obtain ⟨s2, hs2⟩ : ∃ s, dgN n = s := ⟨_, rfl⟩
  have d2 := fun w => rdg_any n f6 w
  have z2 := dgN_size f6
  rw [hs1] at d1 z1
  rw [hs2] at d2 z2
  rw [hs1, hs2]
  have HX := Lib.hid (And.intro d1 (And.intro hbl (And.intro hbe d2)))
  clear d1 hbl hbe d2 hs1 hs2 hr f1 f2 f3 f4 f5 f6 f8 f9
  have t0 : ¬ 9223372036854775807 < 1 + s1.size := by omega
  have t1 : ¬ 9223372036854775807 < 6 + (1 + s1.size) := by omega
  have t2 : ¬ 9223372036854775807 < 6 + (1 + s1.size) + 1 := by omega
  have t3 : ¬ 9223372036854775807 < 6 + (1 + s1.size) + 1 + s2.size := by omega
  clear z1 z2 f7
  go_enter Tryd.func11, Tryd.ntmps11
  go_wp2_with fail
  refine (HX.out.1 _).mono ?_
  rintro e1 w1 ⟨rfl, hm1⟩
  have k1 := HX.out.2.1.below hm1 HX.out.2.1.lt
  have hbA : Below w.heap.size w w1 := (HX.out.2.2.1 _).trans (hm1.mono (HX.out.2.2.1 _).size)
  have c0 := k1.cell 0
  have c10 := k1.cell 10
  go_wp2_with fail
  refine (HX.out.2.2.2 _).mono ?_
  rintro e2 w2 ⟨rfl, hm2⟩
  have hbB : Below w.heap.size w w2 := hbA.trans (hm2.mono hbA.size)
  have HB := Lib.hid hbB
  clear hbA hbB hm1 hm2
  go_wp2_with fail
  go_ret
  exact ⟨rfl, HB.out⟩

set_option maxRecDepth 100000 in
set_option maxHeartbeats 3200000 in
theorem line_11 (hF : FitsB ⟨11, st, en, da, ki, on, we, ex, co, la, n, ps⟩) (w : World) : Calls Tryd.prog 11 #[.agg #[.int .i64 11, .int .i64 st, .bool en, .string da, .int .i64 ki, .int .i64 on, .int .i64 we, .bool ex, .int .i64 co, .int .i64 la, .int .i64 n, pv]] w fun e w' => e = .returned (.string (lineB ⟨11, st, en, da, ki, on, we, ex, co, la, n, ps⟩)) ∧ Below w.heap.size w w' := by
  obtain ⟨f1, f2, f3, f4, f5, f6, f7, f8, f9⟩ := hF
  simp only at f1 f2 f3 f4 f5 f6 f7 f8 f9
  have d1 := rdg_any st f1
  have z1 := dgN_size f1
  have hbl := Blk.new w 26 #[.int .i64 11, .int .i64 st, .bool en, .string da, .int .i64 ki, .int .i64 on, .int .i64 we, .bool ex, .int .i64 co, .int .i64 la, .int .i64 n, pv]
  have hbe := fun o => Below.step (Below.refl w.heap.size w) o
  have hr : lineB ⟨11, st, en, da, ki, on, we, ex, co, la, n, ps⟩ = ((⟨#[114, 101, 113, 117, 101, 115, 116]⟩ ++ (⟨#[32]⟩ ++ dgN st)) ++ ⟨#[32]⟩) ++ dgN n := rfl
  rw [hr]
  obtain ⟨s1, hs1⟩ : ∃ s, dgN st = s := ⟨_, rfl⟩
  obtain ⟨s2, hs2⟩ : ∃ s, dgN n = s := ⟨_, rfl⟩
  have d2 := fun w => rdg_any n f6 w
  have z2 := dgN_size f6
  rw [hs1] at d1 z1
  rw [hs2] at d2 z2
  rw [hs1, hs2]
  have HX := Lib.hid (And.intro d1 (And.intro hbl (And.intro hbe d2)))
  clear d1 hbl hbe d2 hs1 hs2 hr f1 f2 f3 f4 f5 f6 f8 f9
  have t0 : ¬ 9223372036854775807 < 1 + s1.size := by omega
  have t1 : ¬ 9223372036854775807 < 7 + (1 + s1.size) := by omega
  have t2 : ¬ 9223372036854775807 < 7 + (1 + s1.size) + 1 := by omega
  have t3 : ¬ 9223372036854775807 < 7 + (1 + s1.size) + 1 + s2.size := by omega
  clear z1 z2 f7
  go_enter Tryd.func11, Tryd.ntmps11
  go_wp2_with fail
  refine (HX.out.1 _).mono ?_
  rintro e1 w1 ⟨rfl, hm1⟩
  have k1 := HX.out.2.1.below hm1 HX.out.2.1.lt
  have hbA : Below w.heap.size w w1 := (HX.out.2.2.1 _).trans (hm1.mono (HX.out.2.2.1 _).size)
  have c0 := k1.cell 0
  have c10 := k1.cell 10
  go_wp2_with fail
  refine (HX.out.2.2.2 _).mono ?_
  rintro e2 w2 ⟨rfl, hm2⟩
  have hbB : Below w.heap.size w w2 := hbA.trans (hm2.mono hbA.size)
  have HB := Lib.hid hbB
  clear hbA hbB hm1 hm2
  go_wp2_with fail
  go_ret
  exact ⟨rfl, HB.out⟩

set_option maxRecDepth 100000 in
set_option maxHeartbeats 3200000 in
theorem line_7 (hF : FitsB ⟨7, st, en, da, ki, on, we, ex, co, la, n, ps⟩) (w : World) : Calls Tryd.prog 11 #[.agg #[.int .i64 7, .int .i64 st, .bool en, .string da, .int .i64 ki, .int .i64 on, .int .i64 we, .bool ex, .int .i64 co, .int .i64 la, .int .i64 n, pv]] w fun e w' => e = .returned (.string (lineB ⟨7, st, en, da, ki, on, we, ex, co, la, n, ps⟩)) ∧ Below w.heap.size w w' := by
  obtain ⟨f1, f2, f3, f4, f5, f6, f7, f8, f9⟩ := hF
  simp only at f1 f2 f3 f4 f5 f6 f7 f8 f9
  have d1 := rdg_any st f1
  have z1 := dgN_size f1
  have hbl := Blk.new w 26 #[.int .i64 7, .int .i64 st, .bool en, .string da, .int .i64 ki, .int .i64 on, .int .i64 we, .bool ex, .int .i64 co, .int .i64 la, .int .i64 n, pv]
  have hbe := fun o => Below.step (Below.refl w.heap.size w) o
  have hr : lineB ⟨7, st, en, da, ki, on, we, ex, co, la, n, ps⟩ = ⟨#[112, 105, 110, 103, 32]⟩ ++ hexB da := rfl
  rw [hr]
  obtain ⟨s1, hs1⟩ : ∃ s, dgN st = s := ⟨_, rfl⟩
  obtain ⟨s2, hs2⟩ : ∃ s, hexB da = s := ⟨_, rfl⟩
  have d2 := fun w => hexes_any da (by omega) w
  have z2 := hexB_size da
  rw [hs1] at d1 z1
  rw [hs2] at d2 z2
  rw [hs2]
  have HX := Lib.hid (And.intro d1 (And.intro hbl (And.intro hbe d2)))
  clear d1 hbl hbe d2 hs1 hs2 hr f1 f2 f3 f4 f5 f6 f8 f9
  have t0 : ¬ 9223372036854775807 < 1 + s1.size := by omega
  have t1 : ¬ 9223372036854775807 < 5 + s2.size := by omega
  clear z1 z2 f7
  go_enter Tryd.func11, Tryd.ntmps11
  go_wp2_with fail
  refine (HX.out.1 _).mono ?_
  rintro e1 w1 ⟨rfl, hm1⟩
  have k1 := HX.out.2.1.below hm1 HX.out.2.1.lt
  have hbA : Below w.heap.size w w1 := (HX.out.2.2.1 _).trans (hm1.mono (HX.out.2.2.1 _).size)
  have c0 := k1.cell 0
  have c3 := k1.cell 3
  go_wp2_with fail
  refine (HX.out.2.2.2 _).mono ?_
  rintro e2 w2 ⟨rfl, hm2⟩
  have hbB : Below w.heap.size w w2 := (by obtain ⟨m, rfl⟩ := hm2; exact below_drewN hbA m)
  have HB := Lib.hid hbB
  clear hbA hbB hm1 hm2
  go_wp2_with fail
  go_ret
  exact ⟨rfl, HB.out⟩

set_option maxRecDepth 100000 in
set_option maxHeartbeats 3200000 in
theorem line_8 (hF : FitsB ⟨8, st, en, da, ki, on, we, ex, co, la, n, ps⟩) (w : World) : Calls Tryd.prog 11 #[.agg #[.int .i64 8, .int .i64 st, .bool en, .string da, .int .i64 ki, .int .i64 on, .int .i64 we, .bool ex, .int .i64 co, .int .i64 la, .int .i64 n, pv]] w fun e w' => e = .returned (.string (lineB ⟨8, st, en, da, ki, on, we, ex, co, la, n, ps⟩)) ∧ Below w.heap.size w w' := by
  obtain ⟨f1, f2, f3, f4, f5, f6, f7, f8, f9⟩ := hF
  simp only at f1 f2 f3 f4 f5 f6 f7 f8 f9
  have d1 := rdg_any st f1
  have z1 := dgN_size f1
  have hbl := Blk.new w 26 #[.int .i64 8, .int .i64 st, .bool en, .string da, .int .i64 ki, .int .i64 on, .int .i64 we, .bool ex, .int .i64 co, .int .i64 la, .int .i64 n, pv]
  have hbe := fun o => Below.step (Below.refl w.heap.size w) o
  have hr : lineB ⟨8, st, en, da, ki, on, we, ex, co, la, n, ps⟩ = ⟨#[112, 111, 110, 103, 32]⟩ ++ hexB da := rfl
  rw [hr]
  obtain ⟨s1, hs1⟩ : ∃ s, dgN st = s := ⟨_, rfl⟩
  obtain ⟨s2, hs2⟩ : ∃ s, hexB da = s := ⟨_, rfl⟩
  have d2 := fun w => hexes_any da (by omega) w
  have z2 := hexB_size da
  rw [hs1] at d1 z1
  rw [hs2] at d2 z2
  rw [hs2]
  have HX := Lib.hid (And.intro d1 (And.intro hbl (And.intro hbe d2)))
  clear d1 hbl hbe d2 hs1 hs2 hr f1 f2 f3 f4 f5 f6 f8 f9
  have t0 : ¬ 9223372036854775807 < 1 + s1.size := by omega
  have t1 : ¬ 9223372036854775807 < 5 + s2.size := by omega
  clear z1 z2 f7
  go_enter Tryd.func11, Tryd.ntmps11
  go_wp2_with fail
  refine (HX.out.1 _).mono ?_
  rintro e1 w1 ⟨rfl, hm1⟩
  have k1 := HX.out.2.1.below hm1 HX.out.2.1.lt
  have hbA : Below w.heap.size w w1 := (HX.out.2.2.1 _).trans (hm1.mono (HX.out.2.2.1 _).size)
  have c0 := k1.cell 0
  have c3 := k1.cell 3
  go_wp2_with fail
  refine (HX.out.2.2.2 _).mono ?_
  rintro e2 w2 ⟨rfl, hm2⟩
  have hbB : Below w.heap.size w w2 := (by obtain ⟨m, rfl⟩ := hm2; exact below_drewN hbA m)
  have HB := Lib.hid hbB
  clear hbA hbB hm1 hm2
  go_wp2_with fail
  go_ret
  exact ⟨rfl, HB.out⟩

set_option maxRecDepth 100000 in
set_option maxHeartbeats 3200000 in
theorem line_6 (hF : FitsB ⟨6, st, en, da, ki, on, we, ex, co, la, n, ps⟩) (w : World) : Calls Tryd.prog 11 #[.agg #[.int .i64 6, .int .i64 st, .bool en, .string da, .int .i64 ki, .int .i64 on, .int .i64 we, .bool ex, .int .i64 co, .int .i64 la, .int .i64 n, pv]] w fun e w' => e = .returned (.string (lineB ⟨6, st, en, da, ki, on, we, ex, co, la, n, ps⟩)) ∧ Below w.heap.size w w' := by
  obtain ⟨f1, f2, f3, f4, f5, f6, f7, f8, f9⟩ := hF
  simp only at f1 f2 f3 f4 f5 f6 f7 f8 f9
  have d1 := rdg_any st f1
  have z1 := dgN_size f1
  have hbl := Blk.new w 26 #[.int .i64 6, .int .i64 st, .bool en, .string da, .int .i64 ki, .int .i64 on, .int .i64 we, .bool ex, .int .i64 co, .int .i64 la, .int .i64 n, pv]
  have hbe := fun o => Below.step (Below.refl w.heap.size w) o
  have hr : lineB ⟨6, st, en, da, ki, on, we, ex, co, la, n, ps⟩ = ⟨#[97, 99, 107]⟩ := rfl
  rw [hr]
  obtain ⟨s1, hs1⟩ : ∃ s, dgN st = s := ⟨_, rfl⟩
  rw [hs1] at d1 z1
  have HX := Lib.hid (And.intro d1 (And.intro hbl hbe))
  clear d1 hbl hbe hs1 hr f1 f2 f3 f4 f5 f6 f8 f9
  have t1 : ¬ 9223372036854775807 < 1 + s1.size := by omega
  clear z1 f7
  go_enter Tryd.func11, Tryd.ntmps11
  go_wp2_with fail
  refine (HX.out.1 _).mono ?_
  rintro e1 w1 ⟨rfl, hm1⟩
  have k1 := HX.out.2.1.below hm1 HX.out.2.1.lt
  have hbA : Below w.heap.size w w1 := (HX.out.2.2 _).trans (hm1.mono (HX.out.2.2 _).size)
  have c0 := k1.cell 0
  have HB := Lib.hid hbA
  clear hbA hm1
  go_wp2_with fail
  go_ret
  exact ⟨rfl, HB.out⟩

set_option maxRecDepth 100000 in
set_option maxHeartbeats 3200000 in
theorem line_9 (hF : FitsB ⟨9, st, en, da, ki, on, we, ex, co, la, n, ps⟩) (w : World) : Calls Tryd.prog 11 #[.agg #[.int .i64 9, .int .i64 st, .bool en, .string da, .int .i64 ki, .int .i64 on, .int .i64 we, .bool ex, .int .i64 co, .int .i64 la, .int .i64 n, pv]] w fun e w' => e = .returned (.string (lineB ⟨9, st, en, da, ki, on, we, ex, co, la, n, ps⟩)) ∧ Below w.heap.size w w' := by
  obtain ⟨f1, f2, f3, f4, f5, f6, f7, f8, f9⟩ := hF
  simp only at f1 f2 f3 f4 f5 f6 f7 f8 f9
  have d1 := rdg_any st f1
  have z1 := dgN_size f1
  have hbl := Blk.new w 26 #[.int .i64 9, .int .i64 st, .bool en, .string da, .int .i64 ki, .int .i64 on, .int .i64 we, .bool ex, .int .i64 co, .int .i64 la, .int .i64 n, pv]
  have hbe := fun o => Below.step (Below.refl w.heap.size w) o
  have hr : lineB ⟨9, st, en, da, ki, on, we, ex, co, la, n, ps⟩ = ((⟨#[103, 111, 97, 119, 97, 121, 32]⟩ ++ dgN la) ++ ⟨#[32]⟩) ++ dgN co := rfl
  rw [hr]
  obtain ⟨s1, hs1⟩ : ∃ s, dgN st = s := ⟨_, rfl⟩
  obtain ⟨s2, hs2⟩ : ∃ s, dgN la = s := ⟨_, rfl⟩
  obtain ⟨s3, hs3⟩ : ∃ s, dgN co = s := ⟨_, rfl⟩
  have d2 := fun w => rdg_any la f5 w
  have z2 := dgN_size f5
  have d3 := fun w => rdg_any co f4 w
  have z3 := dgN_size f4
  rw [hs1] at d1 z1
  rw [hs2] at d2 z2
  rw [hs3] at d3 z3
  rw [hs2, hs3]
  have HX := Lib.hid (And.intro d1 (And.intro hbl (And.intro hbe (And.intro d2 d3))))
  clear d1 hbl hbe d2 d3 hs1 hs2 hs3 hr f1 f2 f3 f4 f5 f6 f8 f9
  have t1 : ¬ 9223372036854775807 < 1 + s1.size := by omega
  have t2 : ¬ 9223372036854775807 < 7 + s2.size := by omega
  have t3 : ¬ 9223372036854775807 < 7 + s2.size + 1 := by omega
  have t4 : ¬ 9223372036854775807 < 7 + s2.size + 1 + s3.size := by omega
  clear z1 z2 z3 f7
  go_enter Tryd.func11, Tryd.ntmps11
  go_wp2_with fail
  refine (HX.out.1 _).mono ?_
  rintro e1 w1 ⟨rfl, hm1⟩
  have k1 := HX.out.2.1.below hm1 HX.out.2.1.lt
  have hbA : Below w.heap.size w w1 := (HX.out.2.2.1 _).trans (hm1.mono (HX.out.2.2.1 _).size)
  have c0 := k1.cell 0
  have hk1 := fun d => k1.drewN d
  have hbd := fun d => below_drewN hbA d
  have HB := Lib.hid (And.intro hk1 hbd)
  clear hbA hm1 k1 hk1 hbd
  go_wp2_with fail
  refine wp_region_held_drew (S := fun w' => w'.cell? ⟨w.heap.size, 7, none⟩ = some (.bool ex) ∧ w'.cell? ⟨w.heap.size, 8, none⟩ = some (.int .i64 co) ∧ w'.cell? ⟨w.heap.size, 9, none⟩ = some (.int .i64 la)) (by kernel_rfl) (⟨(HB.out.1 1).cell 7, (HB.out.1 1).cell 8, (HB.out.1 1).cell 9⟩) (fun hHeld => ?_)
  refine wpAnyH_take (i := 0) (v := ?va0) rfl (by kernel_rfl) (by kernel_rfl) (by kernel_rfl) (fun _ _ _ h => h) (Or.inl ⟨by rfl, ?hya0⟩) hHeld ?resta0
  case hya0 => (intro w' hSw; (try dsimp only at hSw); go_simp; try with_reducible rfl)
  try simp only [Act.put, List.getElem_toArray, List.getElem_cons_zero, List.getElem_cons_succ, List.setIfInBounds_toArray, List.set_cons_zero, List.set_cons_succ]
  refine wpAnyH_take (i := 1) (v := ?va1) rfl (by kernel_rfl) (by kernel_rfl) (by kernel_rfl) (fun _ _ _ h => h) (Or.inl ⟨by rfl, ?hya1⟩) hHeld ?resta1
  case hya1 => (intro w' hSw; (try dsimp only at hSw); go_simp; try with_reducible rfl)
  try simp only [Act.put, List.getElem_toArray, List.getElem_cons_zero, List.getElem_cons_succ, List.setIfInBounds_toArray, List.set_cons_zero, List.set_cons_succ]
  refine wpAnyH_take (i := 5) (v := ?va5) rfl (by kernel_rfl) (by kernel_rfl) (by kernel_rfl) (fun _ _ _ h => h) (Or.inl ⟨by rfl, ?hya5⟩) hHeld ?resta5
  case hya5 => (intro w' hSw; (try dsimp only at hSw); go_simp; try with_reducible rfl)
  try simp only [Act.put, List.getElem_toArray, List.getElem_cons_zero, List.getElem_cons_succ, List.setIfInBounds_toArray, List.set_cons_zero, List.set_cons_succ]
  refine wpAnyH_take (i := 6) (v := ?va6) rfl (by kernel_rfl) (by kernel_rfl) (by kernel_rfl) (fun _ _ _ h => h) (Or.inl ⟨by rfl, ?hya6⟩) hHeld ?resta6
  case hya6 => (intro w' hSw; (try dsimp only at hSw); go_simp; try with_reducible rfl)
  try simp only [Act.put, List.getElem_toArray, List.getElem_cons_zero, List.getElem_cons_succ, List.setIfInBounds_toArray, List.set_cons_zero, List.set_cons_succ]
  refine wpAnyH_ready (rs := [2]) (by kernel_rfl) (by simp) ?_
  refine AllReadyH.cons rfl (fun K hK => ?_) AllReadyH.nil
  go_simp
  refine (HX.out.2.2.2.1 _).mono ?_
  rintro e2 w2 ⟨rfl, hm2⟩
  have k2 := (HB.out.1 1).below hm2 (HB.out.1 1).lt
  have hbB : Below w.heap.size w w2 := (HB.out.2 1).trans (hm2.mono (HB.out.2 1).size)
  refine hK.out _ _ (⟨k2.cell 7, k2.cell 8, k2.cell 9⟩) (fun hHeld => ?_)
  clear hK K
  try simp only [Act.put, List.getElem_toArray, List.getElem_cons_zero, List.getElem_cons_succ, List.setIfInBounds_toArray, List.set_cons_zero, List.set_cons_succ]
  refine wpAnyH_take (i := 3) (v := ?va3) rfl (by kernel_rfl) (by kernel_rfl) (by kernel_rfl) (fun _ _ _ h => h) (Or.inl ⟨by rfl, ?hya3⟩) hHeld ?resta3
  case hya3 => (intro w' hSw; (try dsimp only at hSw); go_simp; try with_reducible rfl)
  try simp only [Act.put, List.getElem_toArray, List.getElem_cons_zero, List.getElem_cons_succ, List.setIfInBounds_toArray, List.set_cons_zero, List.set_cons_succ]
  refine wpAnyH_take (i := 4) (v := ?va4) rfl (by kernel_rfl) (by kernel_rfl) (by kernel_rfl) (fun _ _ _ h => h) (Or.inl ⟨by rfl, ?hya4⟩) hHeld ?resta4
  case hya4 => (intro w' hSw; (try dsimp only at hSw); go_simp; try with_reducible rfl)
  try simp only [Act.put, List.getElem_toArray, List.getElem_cons_zero, List.getElem_cons_succ, List.setIfInBounds_toArray, List.set_cons_zero, List.set_cons_succ]
  refine wpAnyH_ready (rs := [7]) (by kernel_rfl) (by simp) ?_
  refine AllReadyH.cons rfl (fun K hK => ?_) AllReadyH.nil
  go_simp
  refine (HX.out.2.2.2.2 _).mono ?_
  rintro e3 w3 ⟨rfl, hm3⟩
  have k3 := k2.below hm3 k2.lt
  have hbC : Below w.heap.size w w3 := hbB.trans (hm3.mono hbB.size)
  refine hK.out _ _ (⟨k3.cell 7, k3.cell 8, k3.cell 9⟩) (fun hHeld => ?_)
  clear hK K
  try simp only [Act.put, List.getElem_toArray, List.getElem_cons_zero, List.getElem_cons_succ, List.setIfInBounds_toArray, List.set_cons_zero, List.set_cons_succ]
  refine wpAnyH_take (i := 8) (v := ?va8) rfl (by kernel_rfl) (by kernel_rfl) (by kernel_rfl) (fun _ _ _ h => h) (Or.inl ⟨by rfl, ?hya8⟩) hHeld ?resta8
  case hya8 => (intro w' hSw; (try dsimp only at hSw); go_simp; try with_reducible rfl)
  try simp only [Act.put, List.getElem_toArray, List.getElem_cons_zero, List.getElem_cons_succ, List.setIfInBounds_toArray, List.set_cons_zero, List.set_cons_succ]
  refine wpAnyH_take (i := 9) (v := ?va9) rfl (by kernel_rfl) (by kernel_rfl) (by kernel_rfl) (fun _ _ _ h => h) (Or.inl ⟨by rfl, ?hya9⟩) hHeld ?resta9
  case hya9 => (intro w' hSw; (try dsimp only at hSw); go_simp; try with_reducible rfl)
  try simp only [Act.put, List.getElem_toArray, List.getElem_cons_zero, List.getElem_cons_succ, List.setIfInBounds_toArray, List.set_cons_zero, List.set_cons_succ]
  refine wpAnyH_done (by kernel_rfl) ?_ _
  have HC := Lib.hid hbC
  clear hbB hbC hm2 hm3 k2 k3
  go_wp2_with fail
  go_ret
  exact ⟨rfl, HC.out⟩

end

end Go.Proofs.YtebiidfpgdolnaaDoor.Dmp

namespace Go.Proofs.YtebiidfpgdolnaaDoor.Dmp
open Go.ChangeShapes Go.WideShapes Go.ChangeAt Go.RowKit Go.Deep
set_option linter.unusedVariables false
open Go.Lib
set_option linter.unusedSimpArgs false

def setsTo (ps : List (Int × Int)) (k : Nat) : ByteArray := setsB (ps.take k)
theorem setsTo_next {ps : List (Int × Int)} {k : Nat} {p : Int × Int} (h : ps[k]? = some p) : setsTo ps (k + 1) = setOne (setsTo ps k) p := by
  unfold setsTo setsB
  rw [List.take_add_one, h]
  simp
theorem setsTo_size (ps : List (Int × Int)) (hp : ∀ p ∈ ps, N31 p.1 ∧ N31 p.2) : ∀ k, (setsTo ps k).size ≤ 8 + 30 * k
  | 0 => by show (⟨#[115, 101, 116, 116, 105, 110, 103, 115]⟩ : ByteArray).size ≤ _; decide
  | k + 1 => by
    have ih := setsTo_size ps hp k
    cases h : ps[k]? with
    | none =>
      have hk := List.getElem?_eq_none_iff.mp h
      have : setsTo ps (k + 1) = setsTo ps k := by
        unfold setsTo
        rw [List.take_of_length_le (by omega), List.take_of_length_le hk]
      rw [this]; omega
    | some p =>
      rw [setsTo_next h]
      obtain ⟨h1, h2⟩ := hp p (List.mem_of_getElem? h)
      have a1 := dgN_size h1
      have a2 := dgN_size h2
      unfold setOne
      simp only [ByteArray.size_append]
      have a3 : (⟨#[32]⟩ : ByteArray).size = 1 := rfl
      have a4 : (⟨#[58]⟩ : ByteArray).size = 1 := rfl
      omega

section
variable (ty st : Int) (en : Bool) (da : ByteArray) (ki on we : Int) (ex : Bool) (co la n : Int) (pv : Value) (ps : List (Int × Int))
set_option maxRecDepth 100000 in
set_option maxHeartbeats 3200000 in
theorem line_5 (hF : FitsB ⟨5, st, en, da, ki, on, we, ex, co, la, n, ps⟩) (w : World) (hP : Ps w pv ps) : Calls Tryd.prog 11 #[.agg #[.int .i64 5, .int .i64 st, .bool en, .string da, .int .i64 ki, .int .i64 on, .int .i64 we, .bool ex, .int .i64 co, .int .i64 la, .int .i64 n, pv]] w fun e w' => e = .returned (.string (lineB ⟨5, st, en, da, ki, on, we, ex, co, la, n, ps⟩)) ∧ Below w.heap.size w w' := by
  obtain ⟨f1, f2, f3, f4, f5, f6, f7, f8, f9⟩ := hF
  simp only at f1 f2 f3 f4 f5 f6 f7 f8 f9
  have d1 := rdg_any st f1
  have z1 := dgN_size f1
  obtain ⟨ao, cap, rfl, hcap, hnone, -⟩ := hP.cap_of
  obtain ⟨m, hm⟩ : ∃ m, ps.length = m := ⟨_, rfl⟩
  unfold Ps at hP
  rw [hm] at hcap hP f8 ⊢
  have hbl := Blk.new w 26 #[.int .i64 5, .int .i64 st, .bool en, .string da, .int .i64 ki, .int .i64 on, .int .i64 we, .bool ex, .int .i64 co, .int .i64 la, .int .i64 n, .slice ao m cap]
  have hbe := fun o => Below.step (Below.refl w.heap.size w) o
  have hr : lineB ⟨5, st, en, da, ki, on, we, ex, co, la, n, ps⟩ = setsTo ps m := by
    unfold setsTo
    rw [List.take_of_length_le (by omega)]
    rfl
  rw [hr]
  obtain ⟨s1, hs1⟩ : ∃ s, dgN st = s := ⟨_, rfl⟩
  rw [hs1] at d1 z1
  have hsz := setsTo_size ps f9
  have HX := Lib.hid (And.intro d1 (And.intro hbl (And.intro hbe (And.intro hP (And.intro f9 (And.intro hsz hm))))))
  clear d1 hbl hbe hs1 hr f1 f2 f3 f4 f5 f6 f9 hsz hnone hP hm
  have t1 : ¬ 9223372036854775807 < 1 + s1.size := by omega
  clear z1 f7
  go_enter Tryd.func11, Tryd.ntmps11
  go_wp2_with fail
  refine (HX.out.1 _).mono ?_
  rintro e1 w1 ⟨rfl, hm1⟩
  have k1 := HX.out.2.1.below hm1 HX.out.2.1.lt
  have hbA : Below w.heap.size w w1 := (HX.out.2.2.1 _).trans (hm1.mono (HX.out.2.2.1 _).size)
  have c0 := k1.cell 0
  have HB := Lib.hid (And.intro hbA k1)
  clear hbA hm1 k1
  go_wp2_with fail
  go_loopw [5, 4] (fun i o wr => ∃ k : Nat, k ≤ m ∧ i = .int .i64 k ∧ o = .string (setsTo ps k) ∧ Below w1.heap.size w1 wr) (fun i _ _ => m - (intOf i).toNat)
  case atStart => exact ⟨0, Nat.zero_le _, rfl, rfl, Below.refl _ _⟩
  case round =>
    obtain ⟨k, hk, rfl, rfl, hb⟩ := hrel
    have kr := HB.out.2.below hb HB.out.2.lt
    have hbR : Below w.heap.size w wr := HB.out.1.trans (hb.mono HB.out.1.size)
    rcases (show k < m ∨ k = m by omega) with hlt | rfl
    · obtain ⟨p, hp⟩ : ∃ p, ps[k]? = some p := ⟨ps[k]'(by have := HX.out.2.2.2.2.2.2; omega), List.getElem?_eq_getElem _⟩
      have hPr := HX.out.2.2.2.1.below hbR
      obtain ⟨b, off, cap2, e1, -, -, hbb, hrd⟩ := hPr.some_of (by omega)
      injection e1 with e1 e3 e4
      subst e1
      subst e4
      have hnx := setsTo_next hp
      obtain ⟨g1, g2⟩ := HX.out.2.2.2.2.1 p (List.mem_of_getElem? hp)
      have z2 := dgN_size g1
      have z3 := dgN_size g2
      have z0 := HX.out.2.2.2.2.2.1 k
      unfold setOne at hnx
      obtain ⟨p1, p2⟩ := p
      simp only at g1 g2 z2 z3 hnx
      have d2 := fun w => rdg_any p1 g1 w
      have d3 := fun w => rdg_any p2 g2 w
      obtain ⟨s2, hs2⟩ : ∃ s, dgN p1 = s := ⟨_, rfl⟩
      obtain ⟨s3, hs3⟩ : ∃ s, dgN p2 = s := ⟨_, rfl⟩
      rw [hs2] at d2 z2 hnx
      rw [hs3] at d3 z3 hnx
      have q0 : wr.cell? ⟨b, off + k * 2, none⟩ = some (.int .i64 p1) := hrd _ _ (prs_at hp).1
      have q1 : wr.cell? ⟨b, off + k * 2 + 1, none⟩ = some (.int .i64 p2) := by rw [Nat.add_assoc]; exact hrd _ _ (prs_at hp).2
      have hq : ∀ w3, Below wr.heap.size wr w3 → w3.cell? ⟨w.heap.size, 11, none⟩ = some (.slice (some ⟨b, off, none⟩) m cap) ∧ w3.cell? ⟨b, off + k * 2, none⟩ = some (.int .i64 p1) ∧ w3.cell? ⟨b, off + k * 2 + 1, none⟩ = some (.int .i64 p2) := fun w3 h3 =>
        ⟨(kr.below h3 kr.lt).cell 11, (h3.cell (p := ⟨b, _, none⟩) hbb).trans q0, (h3.cell (p := ⟨b, _, none⟩) hbb).trans q1⟩
      have hb0 := fun d => below_drewN (Below.refl wr.heap.size wr) d
      have t2 : ¬ 9223372036854775807 < (setsTo ps k).size + 1 := by omega
      have t3 : ¬ 9223372036854775807 < (setsTo ps k).size + 1 + s2.size := by omega
      have t4 : ¬ 9223372036854775807 < (setsTo ps k).size + 1 + s2.size + 1 := by omega
      have t5 : ¬ 9223372036854775807 < (setsTo ps k).size + 1 + s2.size + 1 + s3.size := by omega
      have k0 : (0 : Int) ≤ (k : Int) := by omega
      have k1 : (k : Int) < (m : Int) := by omega
      have w6 : IntKind.i64.wrap ((k : Int) + 1) = (k : Int) + 1 := IntWalk.i64_in _ (by omega)
      have c11 := kr.cell 11
      have HK := Lib.hid (And.intro hnx (And.intro hlt (And.intro hb (And.intro hq (And.intro hb0 (And.intro d2 d3))))))
      clear hnx hlt hb hq hb0 d2 d3 kr hbR hrd hPr q0 q1 hbb hp z0 z2 z3 hs2 hs3 g1 g2 e3 hk
      go_wp2_with fail
      refine wp_region_held_drew (S := fun w' => w'.cell? ⟨w.heap.size, 11, none⟩ = some (.slice (some ⟨b, off, none⟩) m cap) ∧ w'.cell? ⟨b, off + k * 2, none⟩ = some (.int .i64 p1) ∧ w'.cell? ⟨b, off + k * 2 + 1, none⟩ = some (.int .i64 p2)) (by kernel_rfl) (HK.out.2.2.2.1 _ (HK.out.2.2.2.2.1 1)) (fun hHeld => ?_)
      refine wpAnyH_take (i := 0) (v := ?va0) rfl (by kernel_rfl) (by kernel_rfl) (by kernel_rfl) (fun _ _ _ h => h) (Or.inl ⟨by rfl, ?hya0⟩) hHeld ?resta0
      case hya0 => (intro w' hSw; (try dsimp only at hSw); go_simp; try with_reducible rfl)
      try simp only [Act.put, List.getElem_toArray, List.getElem_cons_zero, List.getElem_cons_succ, List.setIfInBounds_toArray, List.set_cons_zero, List.set_cons_succ]
      refine wpAnyH_take (i := 1) (v := ?va1) rfl (by kernel_rfl) (by kernel_rfl) (by kernel_rfl) (fun _ _ _ h => h) (Or.inl ⟨by rfl, ?hya1⟩) hHeld ?resta1
      case hya1 => (intro w' hSw; (try dsimp only at hSw); go_simp; try with_reducible rfl)
      try simp only [Act.put, List.getElem_toArray, List.getElem_cons_zero, List.getElem_cons_succ, List.setIfInBounds_toArray, List.set_cons_zero, List.set_cons_succ]
      refine wpAnyH_take (i := 2) (v := ?va2) rfl (by kernel_rfl) (by kernel_rfl) (by kernel_rfl) (fun _ _ _ h => h) (Or.inl ⟨by rfl, ?hya2⟩) hHeld ?resta2
      case hya2 => (intro w' hSw; (try dsimp only at hSw); go_simp; try with_reducible rfl)
      try simp only [Act.put, List.getElem_toArray, List.getElem_cons_zero, List.getElem_cons_succ, List.setIfInBounds_toArray, List.set_cons_zero, List.set_cons_succ]
      refine wpAnyH_take (i := 3) (v := ?va3) rfl (by kernel_rfl) (by kernel_rfl) (by kernel_rfl) (fun _ _ _ h => h) (Or.inl ⟨by rfl, ?hya3⟩) hHeld ?resta3
      case hya3 => (intro w' hSw; (try dsimp only at hSw); go_simp; try with_reducible rfl)
      try simp only [Act.put, List.getElem_toArray, List.getElem_cons_zero, List.getElem_cons_succ, List.setIfInBounds_toArray, List.set_cons_zero, List.set_cons_succ]
      refine wpAnyH_take (i := 4) (v := ?va4) rfl (by kernel_rfl) (by kernel_rfl) (by kernel_rfl) (fun _ _ _ h => h) (Or.inl ⟨by rfl, ?hya4⟩) hHeld ?resta4
      case hya4 => (intro w' hSw; (try dsimp only at hSw); go_simp; try with_reducible rfl)
      try simp only [Act.put, List.getElem_toArray, List.getElem_cons_zero, List.getElem_cons_succ, List.setIfInBounds_toArray, List.set_cons_zero, List.set_cons_succ]
      refine wpAnyH_take (i := 5) (v := ?va5) rfl (by kernel_rfl) (by kernel_rfl) (by kernel_rfl) (fun _ _ _ h => h) (Or.inl ⟨by rfl, ?hya5⟩) hHeld ?resta5
      case hya5 => (intro w' hSw; (try dsimp only at hSw); go_simp; try with_reducible rfl)
      try simp only [Act.put, List.getElem_toArray, List.getElem_cons_zero, List.getElem_cons_succ, List.setIfInBounds_toArray, List.set_cons_zero, List.set_cons_succ]
      refine wpAnyH_take (i := 6) (v := ?va6) rfl (by kernel_rfl) (by kernel_rfl) (by kernel_rfl) (fun _ _ _ h => h) (Or.inl ⟨by rfl, ?hya6⟩) hHeld ?resta6
      case hya6 => (intro w' hSw; (try dsimp only at hSw); go_simp; try with_reducible rfl)
      try simp only [Act.put, List.getElem_toArray, List.getElem_cons_zero, List.getElem_cons_succ, List.setIfInBounds_toArray, List.set_cons_zero, List.set_cons_succ]
      refine wpAnyH_take (i := 7) (v := ?va7) rfl (by kernel_rfl) (by kernel_rfl) (by kernel_rfl) (fun _ _ _ h => h) (Or.inl ⟨by rfl, ?hya7⟩) hHeld ?resta7
      case hya7 => (intro w' hSw; (try dsimp only at hSw); go_simp; try with_reducible rfl)
      try simp only [Act.put, List.getElem_toArray, List.getElem_cons_zero, List.getElem_cons_succ, List.setIfInBounds_toArray, List.set_cons_zero, List.set_cons_succ]
      refine wpAnyH_take (i := 11) (v := ?va11) rfl (by kernel_rfl) (by kernel_rfl) (by kernel_rfl) (fun _ _ _ h => h) (Or.inl ⟨by rfl, ?hya11⟩) hHeld ?resta11
      case hya11 => (intro w' hSw; (try dsimp only at hSw); go_simp; try with_reducible rfl)
      try simp only [Act.put, List.getElem_toArray, List.getElem_cons_zero, List.getElem_cons_succ, List.setIfInBounds_toArray, List.set_cons_zero, List.set_cons_succ]
      refine wpAnyH_take (i := 12) (v := ?va12) rfl (by kernel_rfl) (by kernel_rfl) (by kernel_rfl) (fun _ _ _ h => h) (Or.inl ⟨by rfl, ?hya12⟩) hHeld ?resta12
      case hya12 => (intro w' hSw; (try dsimp only at hSw); go_simp; try with_reducible rfl)
      try simp only [Act.put, List.getElem_toArray, List.getElem_cons_zero, List.getElem_cons_succ, List.setIfInBounds_toArray, List.set_cons_zero, List.set_cons_succ]
      refine wpAnyH_take (i := 13) (v := ?va13) rfl (by kernel_rfl) (by kernel_rfl) (by kernel_rfl) (fun _ _ _ h => h) (Or.inl ⟨by rfl, ?hya13⟩) hHeld ?resta13
      case hya13 => (intro w' hSw; (try dsimp only at hSw); go_simp; try with_reducible rfl)
      try simp only [Act.put, List.getElem_toArray, List.getElem_cons_zero, List.getElem_cons_succ, List.setIfInBounds_toArray, List.set_cons_zero, List.set_cons_succ]
      refine wpAnyH_take (i := 14) (v := ?va14) rfl (by kernel_rfl) (by kernel_rfl) (by kernel_rfl) (fun _ _ _ h => h) (Or.inl ⟨by rfl, ?hya14⟩) hHeld ?resta14
      case hya14 => (intro w' hSw; (try dsimp only at hSw); go_simp; try with_reducible rfl)
      try simp only [Act.put, List.getElem_toArray, List.getElem_cons_zero, List.getElem_cons_succ, List.setIfInBounds_toArray, List.set_cons_zero, List.set_cons_succ]
      refine wpAnyH_take (i := 15) (v := ?va15) rfl (by kernel_rfl) (by kernel_rfl) (by kernel_rfl) (fun _ _ _ h => h) (Or.inl ⟨by rfl, ?hya15⟩) hHeld ?resta15
      case hya15 => (intro w' hSw; (try dsimp only at hSw); go_simp; try with_reducible rfl)
      try simp only [Act.put, List.getElem_toArray, List.getElem_cons_zero, List.getElem_cons_succ, List.setIfInBounds_toArray, List.set_cons_zero, List.set_cons_succ]
      refine wpAnyH_take (i := 16) (v := ?va16) rfl (by kernel_rfl) (by kernel_rfl) (by kernel_rfl) (fun _ _ _ h => h) (Or.inl ⟨by rfl, ?hya16⟩) hHeld ?resta16
      case hya16 => (intro w' hSw; (try dsimp only at hSw); go_simp; try with_reducible rfl)
      try simp only [Act.put, List.getElem_toArray, List.getElem_cons_zero, List.getElem_cons_succ, List.setIfInBounds_toArray, List.set_cons_zero, List.set_cons_succ]
      refine wpAnyH_ready (rs := [8]) (by kernel_rfl) (by simp) ?_
      refine AllReadyH.cons rfl (fun K hK => ?_) AllReadyH.nil
      go_simp
      refine (HK.out.2.2.2.2.2.1 _).mono ?_
      rintro e2 w2 ⟨rfl, hm2⟩
      have hbB : Below wr.heap.size wr w2 := (HK.out.2.2.2.2.1 1).trans (hm2.mono (HK.out.2.2.2.2.1 1).size)
      refine hK.out _ _ (HK.out.2.2.2.1 _ hbB) (fun hHeld => ?_)
      clear hK K
      try simp only [Act.put, List.getElem_toArray, List.getElem_cons_zero, List.getElem_cons_succ, List.setIfInBounds_toArray, List.set_cons_zero, List.set_cons_succ]
      refine wpAnyH_take (i := 9) (v := ?va9) rfl (by kernel_rfl) (by kernel_rfl) (by kernel_rfl) (fun _ _ _ h => h) (Or.inl ⟨by rfl, ?hya9⟩) hHeld ?resta9
      case hya9 => (intro w' hSw; (try dsimp only at hSw); go_simp; try with_reducible rfl)
      try simp only [Act.put, List.getElem_toArray, List.getElem_cons_zero, List.getElem_cons_succ, List.setIfInBounds_toArray, List.set_cons_zero, List.set_cons_succ]
      refine wpAnyH_take (i := 10) (v := ?va10) rfl (by kernel_rfl) (by kernel_rfl) (by kernel_rfl) (fun _ _ _ h => h) (Or.inl ⟨by rfl, ?hya10⟩) hHeld ?resta10
      case hya10 => (intro w' hSw; (try dsimp only at hSw); go_simp; try with_reducible rfl)
      try simp only [Act.put, List.getElem_toArray, List.getElem_cons_zero, List.getElem_cons_succ, List.setIfInBounds_toArray, List.set_cons_zero, List.set_cons_succ]
      refine wpAnyH_ready (rs := [17]) (by kernel_rfl) (by simp) ?_
      refine AllReadyH.cons rfl (fun K hK => ?_) AllReadyH.nil
      go_simp
      refine (HK.out.2.2.2.2.2.2 _).mono ?_
      rintro e3 w3 ⟨rfl, hm3⟩
      have hbC : Below wr.heap.size wr w3 := hbB.trans (hm3.mono hbB.size)
      refine hK.out _ _ (HK.out.2.2.2.1 _ hbC) (fun hHeld => ?_)
      clear hK K
      try simp only [Act.put, List.getElem_toArray, List.getElem_cons_zero, List.getElem_cons_succ, List.setIfInBounds_toArray, List.set_cons_zero, List.set_cons_succ]
      refine wpAnyH_take (i := 18) (v := ?va18) rfl (by kernel_rfl) (by kernel_rfl) (by kernel_rfl) (fun _ _ _ h => h) (Or.inl ⟨by rfl, ?hya18⟩) hHeld ?resta18
      case hya18 => (intro w' hSw; (try dsimp only at hSw); go_simp; try with_reducible rfl)
      try simp only [Act.put, List.getElem_toArray, List.getElem_cons_zero, List.getElem_cons_succ, List.setIfInBounds_toArray, List.set_cons_zero, List.set_cons_succ]
      refine wpAnyH_take (i := 19) (v := ?va19) rfl (by kernel_rfl) (by kernel_rfl) (by kernel_rfl) (fun _ _ _ h => h) (Or.inl ⟨by rfl, ?hya19⟩) hHeld ?resta19
      case hya19 => (intro w' hSw; (try dsimp only at hSw); go_simp; try with_reducible rfl)
      try simp only [Act.put, List.getElem_toArray, List.getElem_cons_zero, List.getElem_cons_succ, List.setIfInBounds_toArray, List.set_cons_zero, List.set_cons_succ]
      refine wpAnyH_done (by kernel_rfl) ?_ _
      have HC := Lib.hid (HK.out.2.2.1.trans (hbC.mono HK.out.2.2.1.size))
      clear hbB hbC hm2 hm3
      go_wp2_with fail
      refine ⟨⟨k + 1, HK.out.2.1, rfl, congrArg Value.string HK.out.1.symm, HC.out⟩, ?_⟩
      have := HK.out.2.1
      show m - ((k : Int) + 1).toNat < m - (k : Int).toNat
      omega
    · have k1 : ¬ ((k : Nat) : Int) < (k : Int) := by omega
      have c11 := kr.cell 11
      have HC := Lib.hid hbR
      clear hbR hb kr
      go_wp2_with fail
      go_ret
      exact ⟨rfl, HC.out⟩
end

end Go.Proofs.YtebiidfpgdolnaaDoor.Dmp

namespace Go.Proofs.YtebiidfpgdolnaaDoor.Dmp
open Go.ChangeShapes Go.WideShapes Go.ChangeAt Go.RowKit Go.Deep
set_option linter.unusedVariables false
open Go.Lib
set_option linter.unusedSimpArgs false

theorem n31_of {n : Int} (h : numB n = true) : N31 n := by
  unfold numB wiB at h; simp at h; exact h
theorem fits_of_check (ty st : Int) (en : Bool) (da : ByteArray) (ki on we : Int) (ex : Bool) (co la n : Int) (ps : List (Int × Int)) (h : checkB ⟨ty, st, en, da, ki, on, we, ex, co, la, n, ps⟩ = true) : FitsB ⟨ty, st, en, da, ki, on, we, ex, co, la, n, ps⟩ ∧ (0 ≤ ty ∧ ty ≤ 11) := by
  have hty : 0 ≤ ty ∧ ty ≤ 11 := by
    unfold checkB at h
    simp only [Bool.and_eq_true, decide_eq_true_eq] at h
    exact h.1
  refine ⟨?_, hty⟩
  rw [← right_eq _ _ _ _ _ _ _ _ _ _ _ _ hty] at h
  unfold rightB at h
  simp only [Bool.and_eq_true, Bool.not_eq_true', decide_eq_true_eq] at h
  obtain ⟨b1, b2, b3, b4, b5, ⟨⟨b6, b7⟩, b8⟩, b9⟩ := h
  have h1 : numB st = true := by
    unfold bad1 at b1
    simp only [Bool.or_eq_false_iff, Bool.not_eq_false'] at b1
    exact b1.1.1
  have hdep : N31 on ∧ N31 we := by
    by_cases h23 : ty = 2 ∨ ty = 3
    · have hd : depB on we = true := by
        unfold bad4 at b4
        simp only [Bool.or_eq_false_iff] at b4
        have := b4.2
        simpa [h23] using this
      unfold depB at hd
      simp only [Bool.and_eq_true] at hd
      refine ⟨n31_of hd.1, ?_⟩
      have := hd.2
      unfold wiB at this
      simp only [Bool.and_eq_true, decide_eq_true_eq] at this
      exact ⟨by omega, by omega⟩
    · have hn : noneB on we ex = true := by
        unfold bad3 at b3
        simp only [Bool.or_eq_false_iff] at b3
        have := b3.1
        have e2 : ¬ ty = 2 := fun h => h23 (.inl h)
        have e3 : ¬ ty = 3 := fun h => h23 (.inr h)
        simpa [e2, e3] using this
      unfold noneB at hn
      simp only [Bool.and_eq_true, decide_eq_true_eq] at hn
      obtain ⟨⟨rfl, rfl⟩, -⟩ := hn
      exact ⟨⟨by omega, by omega⟩, ⟨by omega, by omega⟩⟩
  have hda : da.size ≤ 256 := by
    by_cases h01 : ty ≤ 1
    · unfold bad4 at b4
      simp only [Bool.or_eq_false_iff] at b4
      have := b4.1.1.1
      simp [h01] at this
      exact this
    · by_cases h78 : ty = 7 ∨ ty = 8
      · unfold bad4 at b4
        simp only [Bool.or_eq_false_iff] at b4
        have := b4.1.1.2
        simp [h78] at this
        omega
      · unfold bad3 at b3
        simp only [Bool.or_eq_false_iff] at b3
        have h9 := b3.2
        have e7 : ¬ ty = 7 := fun h => h78 (.inl h)
        have e8 : ¬ ty = 8 := fun h => h78 (.inr h)
        have e1 : 1 < ty := by omega
        simp [e1, e7, e8] at h9
        rw [h9]
        decide
  refine ⟨n31_of h1, hdep.1, hdep.2, n31_of b6, n31_of b7, n31_of b8, hda, b9, fun p hp => ?_⟩
  have := List.all_eq_true.mp b5 p hp
  unfold parB at this
  simp only [Bool.and_eq_true] at this
  refine ⟨?_, n31_of this.2⟩
  have h2 := this.1
  unfold wiB at h2
  simp only [Bool.and_eq_true, decide_eq_true_eq] at h2
  exact ⟨by omega, by omega⟩

theorem rline_any (ty st : Int) (en : Bool) (da : ByteArray) (ki on we : Int) (ex : Bool) (co la n : Int) (pv : Value) (ps : List (Int × Int)) (hC : checkB ⟨ty, st, en, da, ki, on, we, ex, co, la, n, ps⟩ = true) (w : World) (hP : Ps w pv ps) :
    Calls Tryd.prog 11 #[.agg #[.int .i64 ty, .int .i64 st, .bool en, .string da, .int .i64 ki, .int .i64 on, .int .i64 we, .bool ex, .int .i64 co, .int .i64 la, .int .i64 n, pv]] w fun e w' => e = .returned (.string (lineB ⟨ty, st, en, da, ki, on, we, ex, co, la, n, ps⟩)) ∧ Below w.heap.size w w' := by
  obtain ⟨hF, hty⟩ := fits_of_check _ _ _ _ _ _ _ _ _ _ _ _ hC
  have hc : ty = 0 ∨ ty = 1 ∨ ty = 2 ∨ ty = 3 ∨ ty = 4 ∨ ty = 5 ∨ ty = 6 ∨ ty = 7 ∨ ty = 8 ∨ ty = 9 ∨ ty = 10 ∨ ty = 11 := by omega
  rcases hc with rfl | rfl | rfl | rfl | rfl | rfl | rfl | rfl | rfl | rfl | rfl | rfl
  · exact line_0 _ _ _ _ _ _ _ _ _ _ pv ps hF w
  · exact line_1 _ _ _ _ _ _ _ _ _ _ pv ps hF w
  · by_cases hk : ki = 1
    · subst hk
      exact line_2a _ _ _ _ _ _ _ _ _ pv ps hF w
    · exact line_2b _ _ _ _ _ _ _ _ _ _ pv ps hF hk w
  · exact line_3 _ _ _ _ _ _ _ _ _ _ pv ps hF w
  · exact line_4 _ _ _ _ _ _ _ _ _ _ pv ps hF w
  · exact line_5 _ _ _ _ _ _ _ _ _ _ pv ps hF w hP
  · exact line_6 _ _ _ _ _ _ _ _ _ _ pv ps hF w
  · exact line_7 _ _ _ _ _ _ _ _ _ _ pv ps hF w
  · exact line_8 _ _ _ _ _ _ _ _ _ _ pv ps hF w
  · exact line_9 _ _ _ _ _ _ _ _ _ _ pv ps hF w
  · exact line_10 _ _ _ _ _ _ _ _ _ _ pv ps hF w
  · exact line_11 _ _ _ _ _ _ _ _ _ _ pv ps hF w

end Go.Proofs.YtebiidfpgdolnaaDoor.Dmp
