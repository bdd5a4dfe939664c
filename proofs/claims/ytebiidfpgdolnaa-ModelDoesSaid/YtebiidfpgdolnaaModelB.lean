import Derived.Test.YtebiidfpgdolnaaModel
namespace Go.Proofs.Ytebiidfpgdolnaa.Model
open Go.ChangeShapes Go.WideShapes Go.ChangeAt Go.RowKit Go.Deep
set_option linter.unusedVariables false

section
variable (g : Nat) (k c s : Int) (vw : Value) (y : ByteArray) (vy vt : Value) (z : ByteArray) (en ou ca : Bool) (ac dr tl : Int)

theorem goes_any (w : World) (h : Blk w g 56 (fl k c s vw y vy vt z en ou ca ac dr tl)) : Calls Try.prog 29 #[.pointer (some ⟨g, 0, none⟩)] w fun e w' => e = .returned (.int .i64 (if en then 11 else 0)) ∧ w = w' := by
  have c8 : w.cell? ⟨g, 8, none⟩ = some (.bool en) := h.cell 8
  cases en
  all_goals
    go_enter Try.func29, Try.ntmps29
    go_wp2
    go_ret
    exact ⟨rfl, rfl⟩

/-- Offer, of a flow of bytes. -/
theorem offer_bytes (x : ByteArray) (n d : Nat) (hd : c - (y.size : Int) = (d : Int)) (hn : n = min d x.size) (hy : y.size ≤ 4096) (hc : c ≤ 4096) (ha0 : 0 ≤ ac) (ha : ac ≤ 10000000)
    (w : World) (h : Blk w g 56 (fl 1 c s vw y vy vt z false ou ca ac dr tl)) :
    Calls Try.prog 17 #[.pointer (some ⟨g, 0, none⟩), .string x] w fun e w' => e = .returned (.tuple #[.int .i64 (n : Int), .int .i64 0]) ∧ Blk w' g 56 (fl 1 c s vw (y ++ x.extract 0 n) vy vt z false ou ca (ac + n) dr tl) ∧ w.grownBy w' (some g) := by
  have hl := h.lt
  have H := Lib.hid h
  have c0 : w.cell? ⟨g, 0, none⟩ = some (.int .i64 1) := h.cell 0
  have c1 : w.cell? ⟨g, 1, none⟩ = some (.int .i64 c) := h.cell 1
  have c2 : w.cell? ⟨g, 2, none⟩ = some (.int .i64 s) := h.cell 2
  have c3 : w.cell? ⟨g, 3, none⟩ = some (vw) := h.cell 3
  have c4 : w.cell? ⟨g, 4, none⟩ = some (.string y) := h.cell 4
  have c5 : w.cell? ⟨g, 5, none⟩ = some (vy) := h.cell 5
  have c6 : w.cell? ⟨g, 6, none⟩ = some (vt) := h.cell 6
  have c7 : w.cell? ⟨g, 7, none⟩ = some (.string z) := h.cell 7
  have c8 : w.cell? ⟨g, 8, none⟩ = some (.bool false) := h.cell 8
  have c9 : w.cell? ⟨g, 9, none⟩ = some (.bool ou) := h.cell 9
  have c10 : w.cell? ⟨g, 10, none⟩ = some (.bool ca) := h.cell 10
  have c11 : w.cell? ⟨g, 11, none⟩ = some (.int .i64 ac) := h.cell 11
  have c12 : w.cell? ⟨g, 12, none⟩ = some (.int .i64 dr) := h.cell 12
  have c13 : w.cell? ⟨g, 13, none⟩ = some (.int .i64 tl) := h.cell 13
  have f0 := h.frozen 0
  have f1 := h.frozen 1
  have f2 := h.frozen 2
  have f3 := h.frozen 3
  have f4 := h.frozen 4
  have f5 := h.frozen 5
  have f6 := h.frozen 6
  have f7 := h.frozen 7
  have f8 := h.frozen 8
  have f9 := h.frozen 9
  have f10 := h.frozen 10
  have f11 := h.frozen 11
  have f12 := h.frozen 12
  have f13 := h.frozen 13
  clear h
  have hw1 : IntKind.i64.wrap (c - (y.size : Int)) = (d : Int) := by rw [hd]; exact IntWalk.i64_in _ (by omega)
  have hnx' : n ≤ x.size := by omega
  have hnx : (n : Int) ≤ (x.size : Int) := by omega
  have hn0 : (0 : Int) ≤ (n : Int) := by omega
  have hw2 : IntKind.i64.wrap (ac + (n : Int)) = ac + n := IntWalk.i64_in _ (by omega)
  have hcs : ¬ 9223372036854775807 < y.size + min n x.size := by omega
  have hgo := fun w h => goes_any g 1 c s vw y vy vt z false ou ca ac dr tl w h
  have hcc : (d < x.size ∧ n = d) ∨ (¬ d < x.size ∧ n = x.size) := by omega
  have HN := Lib.hid (And.intro hn (And.intro hd hgo))
  clear hn hd hgo
  have hxx : x.extract 0 x.size = x := by simp
  rcases hcc with ⟨hl2, rfl⟩ | ⟨hl2, rfl⟩
  all_goals
    go_enter Try.func17, Try.ntmps17
    go_wp2_with fail
    refine (HN.out.2.2 _ H.out).mono ?_
    rintro e w1 ⟨rfl, rfl⟩
    go_wp2_with fail
    go_region
    go_wp2_with fail
    go_region
    all_goals
      go_wp2_with fail
      go_ret2
      try rw [hxx]
      refine ⟨rfl, ?_, ?_⟩
      · apply Blk.eq
        · repeat (first | with_reducible exact H.out | with_reducible apply Blk.drewN | with_reducible apply Blk.drew | with_reducible apply Blk.alloc | with_reducible apply Blk.store)
        · rfl
      · repeat (first | with_reducible exact World.grownBy.refl w _ | with_reducible apply only_drewN | with_reducible apply only_drew | with_reducible apply only_alloc | with_reducible refine only_setCell ?_ (.inl rfl) _)

end

end Go.Proofs.Ytebiidfpgdolnaa.Model
