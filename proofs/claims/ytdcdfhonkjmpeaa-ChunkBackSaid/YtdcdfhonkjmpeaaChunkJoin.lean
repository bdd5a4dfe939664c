import Derived.Test.YtdcdfhonkjmpeaaChunkRef
namespace Go.Proofs.Ytdcdfhonkjmpeaa.Chunk
open Go.ChangeShapes Go.WideShapes Go.ChangeAt Go.RowKit Go.Deep
set_option linter.unusedVariables false
open Go.Lib

/-! ### New -/
theorem new_bad (n : Int) (h : n < 0 ∨ 65536 < n) (w : World) : Calls Try.prog 20 #[.int .i64 n] w fun e w' => e = .returned (.tuple #[.pointer none, .int .i64 3]) ∧ w = w' := by
  have hc : n < 0 ∨ (¬ n < 0 ∧ 65536 < n) := by omega
  clear h
  rcases hc with h | ⟨h, h2⟩
  all_goals
    go_enter Try.func20, Try.ntmps20
    go_wp2
    go_ret2
    exact ⟨rfl, rfl⟩

theorem new_ok (n : Int) (h0 : 0 ≤ n) (h1 : n ≤ 65536) (w : World) : Calls Try.prog 20 #[.int .i64 n] w fun e w' => e = .returned (.tuple #[.pointer (some ⟨w.heap.size, 0, none⟩), .int .i64 0]) ∧ w' = w.alloc (.cells #[.slice none 0 0, .int .i64 n, .bool false] 90) := by
  have hn : ¬ n < 0 := by omega
  have hm : ¬ 65536 < n := by omega
  go_enter Try.func20, Try.ntmps20
  go_wp2
  go_ret2
  exact ⟨rfl, rfl⟩

/-! ### Kept, Broken -/
theorem kept_any (g n : Nat) (a : Option Addr) (c : Nat) (x y : Value) (w : World) (h : Blk w g 90 #[.slice a n c, x, y]) :
    Calls Try.prog 22 #[.pointer (some ⟨g, 0, none⟩)] w fun e w' => e = .returned (.int .i64 (n : Int)) ∧ w = w' := by
  have c0 : w.cell? ⟨g, 0, none⟩ = some (.slice a n c) := h.cell 0
  go_enter Try.func22, Try.ntmps22
  go_wp2
  go_ret
  exact ⟨rfl, rfl⟩
theorem kept_nil (w : World) : Calls Try.prog 22 #[.pointer none] w fun e w' => e = .returned (.int .i64 0) ∧ w = w' := by
  go_enter Try.func22, Try.ntmps22
  go_wp2
  go_ret
  exact ⟨rfl, rfl⟩
theorem broken_any (g : Nat) (b : Bool) (x y : Value) (w : World) (h : Blk w g 90 #[x, y, .bool b]) :
    Calls Try.prog 23 #[.pointer (some ⟨g, 0, none⟩)] w fun e w' => e = .returned (.bool b) ∧ w = w' := by
  have c0 : w.cell? ⟨g, 2, none⟩ = some (.bool b) := h.cell 2
  go_enter Try.func23, Try.ntmps23
  go_wp2
  go_ret
  exact ⟨rfl, rfl⟩
theorem broken_nil (w : World) : Calls Try.prog 23 #[.pointer none] w fun e w' => e = .returned (.bool true) ∧ w = w' := by
  go_enter Try.func23, Try.ntmps23
  go_wp2
  go_ret
  exact ⟨rfl, rfl⟩

/-! ### What breaks it -/
theorem breaks_any (g bx : Nat) (x m b : Value) (e : Int) (w : World) (T : TypeId) (hx : Blk w bx T #[.pointer (some ⟨g, 0, none⟩)]) (h : Blk w g 90 #[x, m, b]) (hne : bx ≠ g) :
    Calls Try.prog 51 #[.int .i64 e, .pointer (some ⟨bx, 0, none⟩)] w fun r w' => r = .returned (.tuple #[.string ⟨#[]⟩, .bool false, .int .i64 e]) ∧ Blk w' g 90 #[.slice none 0 0, m, .bool true] ∧ w.grownBy w' (some g) := by
  have d0 := hx.cell 0
  have hl := h.lt
  have H := Lib.hid h
  have c0 : w.cell? ⟨g, 0, none⟩ = some (x) := h.cell 0
  have c1 : w.cell? ⟨g, 1, none⟩ = some (m) := h.cell 1
  have c2 : w.cell? ⟨g, 2, none⟩ = some (b) := h.cell 2
  have f0 := h.frozen 0
  have f1 := h.frozen 1
  have f2 := h.frozen 2
  clear h
  go_enter Try.func51, Try.ntmps51
  go_wp2
  go_region
  all_goals go_wp2
  all_goals
    go_ret3
    refine ⟨rfl, ?_, ?_⟩
    · apply Blk.eq
      · repeat (first | with_reducible exact H.out | with_reducible apply Blk.drewN | with_reducible apply Blk.drew | with_reducible apply Blk.alloc | with_reducible apply Blk.store)
      · rfl
    · repeat (first | with_reducible exact World.grownBy.refl w _ | with_reducible apply only_drewN | with_reducible apply only_drew | with_reducible apply only_alloc | with_reducible refine only_setCell ?_ (.inl rfl) _)

theorem add_nil (s : ByteArray) (w : World) : Calls Try.prog 21 #[.pointer none, .string s] w fun r w' => r = .returned (.tuple #[.string ⟨#[]⟩, .bool false, .int .i64 1]) ∧ Below w.heap.size w w' := by
  go_enter Try.func21, Try.ntmps21
  go_wp2
  go_ret3
  exact ⟨rfl, (Below.refl _ _).alloc (Nat.le_refl _) _⟩

@[go_sem] theorem head_byte (c : UInt8) (rest : List UInt8) (h : 0 < (ByteArray.mk (c :: rest).toArray).size) : (ByteArray.mk (c :: rest).toArray)[0] = c := rfl

section
variable (g : Nat) (x : Value) (m : Int) (w : World)

theorem add_broken (s : ByteArray) (h : Blk w g 90 #[x, .int .i64 m, .bool true]) :
    Calls Try.prog 21 #[.pointer (some ⟨g, 0, none⟩), .string s] w fun r w' => r = .returned (.tuple #[.string ⟨#[]⟩, .bool false, .int .i64 11]) ∧ Below w.heap.size w w' := by
  have hbx := Blk.new w 32 #[.pointer (some ⟨g, 0, none⟩)]
  have hj := h.alloc (.cells #[.pointer (some ⟨g, 0, none⟩)] 32)
  have d0 := hbx.cell 0
  have c2 : (w.alloc (.cells #[.pointer (some ⟨g, 0, none⟩)] 32)).cell? ⟨g, 2, none⟩ = some (.bool true) := hj.cell 2
  go_enter Try.func21, Try.ntmps21
  go_wp2_with fail
  go_ret3
  exact ⟨rfl, (Below.refl _ _).alloc (Nat.le_refl _) _⟩

theorem add_empty (h : Blk w g 90 #[x, .int .i64 m, .bool false]) :
    Calls Try.prog 21 #[.pointer (some ⟨g, 0, none⟩), .string ⟨#[]⟩] w fun r w' => r = .returned (.tuple #[.string ⟨#[]⟩, .bool false, .int .i64 6]) ∧ Blk w' g 90 #[.slice none 0 0, .int .i64 m, .bool true] ∧ w.grownBy w' (some g) := by
  have hbx := Blk.new w 32 #[.pointer (some ⟨g, 0, none⟩)]
  have hj := h.alloc (.cells #[.pointer (some ⟨g, 0, none⟩)] 32)
  have hne : w.heap.size ≠ g := by have := h.lt; omega
  have d0 := hbx.cell 0
  have c2 : (w.alloc (.cells #[.pointer (some ⟨g, 0, none⟩)] 32)).cell? ⟨g, 2, none⟩ = some (.bool false) := hj.cell 2
  have hbr := breaks_any g w.heap.size x _ _ 6 _ _ hbx hj hne
  have ha := only_alloc (only_mono (World.grownBy.refl w none) (some g)) (.cells #[.pointer (some ⟨g, 0, none⟩)] 32)
  have HBR := Lib.hid hbr
  clear hbr
  have HA := Lib.hid ha
  clear ha
  clear hne hj hbx h
  go_enter Try.func21, Try.ntmps21
  go_wp2_with fail
  refine HBR.out.mono ?_
  rintro e w1 ⟨rfl, hk1, hg1⟩
  go_wp2_with fail
  go_ret3
  exact ⟨rfl, hk1, only_trans HA.out hg1⟩

theorem add_form (c : UInt8) (rest : List UInt8) (hc : 1 < c.toNat) (h : Blk w g 90 #[x, .int .i64 m, .bool false]) :
    Calls Try.prog 21 #[.pointer (some ⟨g, 0, none⟩), .string ⟨(c :: rest).toArray⟩] w fun r w' => r = .returned (.tuple #[.string ⟨#[]⟩, .bool false, .int .i64 6]) ∧ Blk w' g 90 #[.slice none 0 0, .int .i64 m, .bool true] ∧ w.grownBy w' (some g) := by
  have hbx := Blk.new w 32 #[.pointer (some ⟨g, 0, none⟩)]
  have hj := h.alloc (.cells #[.pointer (some ⟨g, 0, none⟩)] 32)
  have hne : w.heap.size ≠ g := by have := h.lt; omega
  have d0 := hbx.cell 0
  have c2 : (w.alloc (.cells #[.pointer (some ⟨g, 0, none⟩)] 32)).cell? ⟨g, 2, none⟩ = some (.bool false) := hj.cell 2
  have hbr := breaks_any g w.heap.size x _ _ 6 _ _ hbx hj hne
  have ha := only_alloc (only_mono (World.grownBy.refl w none) (some g)) (.cells #[.pointer (some ⟨g, 0, none⟩)] 32)
  have HBR := Lib.hid hbr
  clear hbr
  have HA := Lib.hid ha
  clear ha
  have hc' : (1 : Int) < (c.toNat : Int) := by omega
  clear hne hj hbx h
  go_enter Try.func21, Try.ntmps21
  go_wp2_with fail
  refine HBR.out.mono ?_
  rintro e w1 ⟨rfl, hk1, hg1⟩
  go_wp2_with fail
  go_ret3
  exact ⟨rfl, hk1, only_trans HA.out hg1⟩

theorem add_big (c : UInt8) (rest : List UInt8) (n cap : Nat) (a : Option Addr) (hc : ¬ 1 < c.toNat) (hm0 : 0 ≤ m) (hm1 : m ≤ 65536) (hn : (n : Int) ≤ m) (hr : rest.length ≤ 281474976710656) (hbig : m - (n : Int) < (rest.length : Int)) (h : Blk w g 90 #[.slice a n cap, .int .i64 m, .bool false]) :
    Calls Try.prog 21 #[.pointer (some ⟨g, 0, none⟩), .string ⟨(c :: rest).toArray⟩] w fun r w' => r = .returned (.tuple #[.string ⟨#[]⟩, .bool false, .int .i64 4]) ∧ Blk w' g 90 #[.slice none 0 0, .int .i64 m, .bool true] ∧ w.grownBy w' (some g) := by
  have hbx := Blk.new w 32 #[.pointer (some ⟨g, 0, none⟩)]
  have hj := h.alloc (.cells #[.pointer (some ⟨g, 0, none⟩)] 32)
  have hne : w.heap.size ≠ g := by have := h.lt; omega
  have d0 := hbx.cell 0
  have c0 : (w.alloc (.cells #[.pointer (some ⟨g, 0, none⟩)] 32)).cell? ⟨g, 0, none⟩ = some (.slice a n cap) := hj.cell 0
  have c1 : (w.alloc (.cells #[.pointer (some ⟨g, 0, none⟩)] 32)).cell? ⟨g, 1, none⟩ = some (.int .i64 m) := hj.cell 1
  have c2 : (w.alloc (.cells #[.pointer (some ⟨g, 0, none⟩)] 32)).cell? ⟨g, 2, none⟩ = some (.bool false) := hj.cell 2
  have hbr := fun k => breaks_any g w.heap.size (.slice a n cap) _ _ 4 ((w.alloc (.cells #[.pointer (some ⟨g, 0, none⟩)] 32)).drewN k) _ (hbx.drewN k) (hj.drewN k) hne
  have ha := fun k => only_drewN (only_alloc (only_mono (World.grownBy.refl w none) (some g)) (.cells #[.pointer (some ⟨g, 0, none⟩)] 32)) k
  have hc' : ¬ (1 : Int) < (c.toNat : Int) := by omega
  have hw1 : IntKind.i64.wrap (rest.length : Int) = (rest.length : Int) := IntWalk.i64_in _ (by omega)
  have hw2 : IntKind.i64.wrap (m - (n : Int)) = m - (n : Int) := IntWalk.i64_in _ (by omega)
  have hw3 : m - (n : Int) < (rest.length : Int) := hbig
  have HBR := Lib.hid hbr
  clear hbr
  have HA := Lib.hid ha
  clear ha
  clear hne hj hbx h hm0 hm1 hn hr hbig
  go_enter Try.func21, Try.ntmps21
  go_wp2_with fail
  go_quiet (fail)
  go_wp2_with fail
  refine (HBR.out _).mono ?_
  rintro e w1 ⟨rfl, hk1, hg1⟩
  go_wp2_with fail
  go_ret3
  exact ⟨rfl, hk1, only_trans (HA.out _) hg1⟩

end

end Go.Proofs.Ytdcdfhonkjmpeaa.Chunk
