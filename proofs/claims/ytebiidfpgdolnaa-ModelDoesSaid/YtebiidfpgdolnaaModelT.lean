import Derived.Test.YtebiidfpgdolnaaModelS
namespace Go.Proofs.Ytebiidfpgdolnaa.Model
open Go.ChangeShapes Go.WideShapes Go.ChangeAt Go.RowKit Go.Deep
set_option linter.unusedVariables false
open Go.Lib

theorem info62 : (Try.prog.info? 62).map (fun i => (i.zero, i.size, i.bytes)) = some (some (.agg #[.string ⟨#[]⟩, .bool false]), 2, 24) := by kernel_rfl
theorem und54 : Try.prog.underlying 54 = some (.slice 62) := by kernel_rfl
theorem two_cells {w : World} {g : Nat} {t : TypeId} {a b : Value} (h : Blk w g t #[a, b]) : ∀ j u, [a, b][j]? = some u → w.cell? ((⟨g, 0, none⟩ : Addr).add j) = some u := by
  intro j u hu
  rw [Addr.add_lit, h.cell]
  match j, hu with
  | 0, hu => simpa using hu
  | 1, hu => simpa using hu
theorem undrew {a w : World} {row : Option Nat} (h : a.drew.grownBy w row) : a.grownBy w row := ⟨h.os, h.tape, h.output, h.size, h.block⟩
theorem undrewN {a w : World} {k : Nat} {row : Option Nat} (h : (a.drewN k).grownBy w row) : a.grownBy w row := ⟨h.os, h.tape, h.output, h.size, h.block⟩
theorem own_slice {w : World} {B z n : Nat} {e : TypeId} {v : Value} {xs : List Value} (h : w.ownsRow B e z v n xs) : ∃ a k, v = .slice a n k := by
  rcases h.2 with ⟨h1, h2⟩ | ⟨gg, cap, cur, h1, _⟩
  · exact ⟨none, 0, by rw [h1, h2]⟩
  · exact ⟨_, cap, h1⟩

section
variable (g : Nat) (c s : Int) (vw : Value) (y : ByteArray) (vy vt : Value) (z : ByteArray) (en ou ca : Bool) (ac dr tl : Int)

set_option maxRecDepth 100000 in
set_option maxHeartbeats 25600000 in
/-- Sent, of a flow of bytes, where it may be. -/
theorem sent_bytes (x : ByteArray) (e : Bool) (n : Nat) (xs : List Value) (hr : fitsB y x en e = true) (hn : n ≤ 1000000) (w : World) (h : Blk w g 56 (fl 1 c s vw y vy vt z en false ca ac dr tl)) (hrd : Rd w g 2 vy n xs) :
    Calls Try.prog 20 #[.pointer (some ⟨g, 0, none⟩), .string x, .bool e] w fun f w' => f = .returned (.bool true) ∧ ∃ vy', Blk w' g 56 (fl 1 c s vw (y.extract x.size y.size) vy' vt z en e ca ac dr tl) ∧
      Rd w' g 2 vy' (n + 1) (xs ++ [.string x, .bool e]) ∧ w.grownBy w' (some g) := by
  have hx : x.size ≤ y.size := by simp [fitsB] at hr; omega
  have hnx := fun w h => next_bytes g c s vw y vy vt z en false ca ac dr tl x e true hr.symm w h
  obtain ⟨ao, cap, rfl, h2, h3, h4, h5⟩ := hrd
  have hl := h.lt
  have H := Lib.hid h
  have c0 : w.cell? ⟨g, 0, none⟩ = some (.int .i64 1) := h.cell 0
  have c1 : w.cell? ⟨g, 1, none⟩ = some (.int .i64 c) := h.cell 1
  have c2 : w.cell? ⟨g, 2, none⟩ = some (.int .i64 s) := h.cell 2
  have c3 : w.cell? ⟨g, 3, none⟩ = some (vw) := h.cell 3
  have c4 : w.cell? ⟨g, 4, none⟩ = some (.string y) := h.cell 4
  have c5 : w.cell? ⟨g, 5, none⟩ = some (.slice ao n cap) := h.cell 5
  have c6 : w.cell? ⟨g, 6, none⟩ = some (vt) := h.cell 6
  have c7 : w.cell? ⟨g, 7, none⟩ = some (.string z) := h.cell 7
  have c8 : w.cell? ⟨g, 8, none⟩ = some (.bool en) := h.cell 8
  have c9 : w.cell? ⟨g, 9, none⟩ = some (.bool false) := h.cell 9
  have c10 : w.cell? ⟨g, 10, none⟩ = some (.bool ca) := h.cell 10
  have c11 : w.cell? ⟨g, 11, none⟩ = some (.int .i64 ac) := h.cell 11
  have c12 : w.cell? ⟨g, 12, none⟩ = some (.int .i64 dr) := h.cell 12
  have c13 : w.cell? ⟨g, 13, none⟩ = some (.int .i64 tl) := h.cell 13
  have f0 := h.frozen 0
  have f1 := h.frozen 1
  have f2 := h.frozen 2
  have f3 := h.frozen 3
  have f4 := h.frozen 4
  have f5 := h.frozen 5
  have f6 := h.frozen 6
  have f7 := h.frozen 7
  have f8 := h.frozen 8
  have f9 := h.frozen 9
  have f10 := h.frozen 10
  have f11 := h.frozen 11
  have f12 := h.frozen 12
  have f13 := h.frozen 13
  clear h
  have hx1 : (x.size : Int) ≤ (y.size : Int) := by omega
  have hx0 : (0 : Int) ≤ (x.size : Int) := by omega
  have hnc : (n : Int) ≤ (cap : Int) := by omega
  have hn0 : (0 : Int) ≤ (n : Int) := by omega
  have HN := Lib.hid (And.intro hnx (And.intro hr (And.intro h2 (And.intro h3 (And.intro h4 h5)))))
  clear hnx hr h2 h3 h4 h5 hx
  go_enter Try.func20, Try.ntmps20
  go_wp2_with fail
  refine (HN.out.1 _ H.out).mono ?_
  rintro e1 w1 ⟨rfl, rfl⟩
  go_wp2_with fail
  have hk2 := H.out.store 4 (.string (y.extract x.size y.size))
  have hg2 : w.grownBy (w.setCell ⟨g, 4, none⟩ (.string (y.extract x.size y.size))) (some g) := only_setCell (only_mono (World.grownBy.refl w none) (some g)) (.inl rfl) _
  have hrd2 := Rd.grown (g := g) (size := 2) (v := .slice ao n cap) (n := n) (xs := xs) ⟨ao, cap, rfl, HN.out.2.2.1, HN.out.2.2.2.1, HN.out.2.2.2.2.1, HN.out.2.2.2.2.2⟩ hg2
  generalize w.setCell ⟨g, 4, none⟩ (.string (y.extract x.size y.size)) = w2 at *
  have hnb := Blk.new w2 62 #[.string x, .bool e]
  have hk3 := hk2.alloc (.cells #[.string x, .bool e] 62)
  have hrd3 := hrd2.below ((Below.refl _ _).alloc (Nat.le_refl _) (.cells #[.string x, .bool e] 62))
  have hg3 := only_alloc hg2 (.cells #[.string x, .bool e] 62)
  have d5 : w2.cell? ⟨g, 5, none⟩ = some (.slice ao n cap) := hk2.cell 5
  have d5' : (w2.alloc (.cells #[.string x, .bool e] 62)).cell? ⟨g, 5, none⟩ = some (.slice ao n cap) := hk3.cell 5
  have hh3 : ∀ b, ao = some b → ∀ j u, xs[j]? = some u → (w2.alloc (.cells #[.string x, .bool e] 62)).cell? (b.add j) = some u := by
    obtain ⟨ao', cap', h1, _, _, _, h5⟩ := hrd3
    injection h1 with h1 _ h3
    subst h1
    exact fun b hb => (h5 b hb).2.2.2
  have hn1 : ao = none → n = 0 ∧ n = 0 := fun h => ⟨(HN.out.2.2.2.2.1 h).1, (HN.out.2.2.2.2.1 h).1⟩
  have HS := Lib.hid (And.intro hnb (And.intro hk3 (And.intro hg3 (And.intro hh3 (And.intro hn1 HN.out.2.2.2.1)))))
  have hlt2 := hk2.lt
  clear hnb hk3 hrd2 hrd3 hg3 hg2 hh3 hn1 hk2 HN H c0 c1 c2 c3 c4 c5 c6 c7 c8 c9 c10 c11 c12 c13 f0 f1 f2 f3 f4 f5 f6 f7 f8 f9 f10 f11 f12 f13
  have HO := Lib.hid (And.intro (show ∀ u ∈ [Value.string x, Value.bool e], u.oneCell' = true by simp [Value.oneCell']) (And.intro (show n < n + 1 by omega) (And.intro (show n + 1 ≤ maxLen by unfold maxLen; omega) (show (n + 1) * 24 ≤ 140737488355328 by omega))))
  obtain ⟨i62, hi62, hz0, hz1, hz2⟩ := info_parts info62
  go_region_law
    (refine step_append_grows rfl (.tmp 64) (.tmp 68) 54 rfl 62 i62 _ 2 24 und54 hi62 hz0 hz1 hz2 rfl (by decide) ao n n xs rfl (by exact HS.out.2.2.2.2.1) (by exact HS.out.2.2.2.2.2) (by exact HS.out.2.2.2.1) ⟨w2.heap.size, 0, none⟩ 1 1 [.string x, .bool e] rfl rfl (by exact two_cells HS.out.1) HO.out.1 HO.out.2.1 HO.out.2.2.1 HO.out.2.2.2 ?_
     intro v5 w5 hown5 hg5
     obtain ⟨a5, k5, rfl⟩ := own_slice hown5
     have hb5 := Blk.grown (by exact HS.out.2.1) hg5 (by simp)
     have e5 : w5.cell? ⟨g, 5, none⟩ = some (.slice ao n cap) := hb5.cell 5
     have e6 := hb5.frozen 5
     have e9 : w5.cell? ⟨g, 9, none⟩ = some (.bool false) := hb5.cell 9
     have e10 := hb5.frozen 9
     have HR := Lib.hid (And.intro hown5 (And.intro hg5 hb5))
     clear hown5 hg5 hb5)
  all_goals
    go_wp2_with fail
    go_ret
    have hr := HR.out
    refine ⟨rfl, _, (hr.2.2.store 5 _).store 9 _, ?_, ?_⟩
    · refine Rd.grown (w := w5) (Rd.owned hr.1 (by simp; omega)) ?_
      exact only_setCell (only_setCell (only_mono (World.grownBy.refl w5 none) (some g)) (.inl rfl) _) (.inl rfl) _
    · refine only_setCell (only_setCell (only_trans HS.out.2.2.1 (only_mono ?_ (some g))) (.inl rfl) _) (.inl rfl) _
      first | exact hr.2.1 | exact undrew hr.2.1 | exact undrewN hr.2.1

end

end Go.Proofs.Ytebiidfpgdolnaa.Model
