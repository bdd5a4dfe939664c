import Derived.Test.YtebiidfpgdolnaaDoorMr
import Derived.Laws.AppendOwn
import Derived.Test.YtebiidfpgdolnaaDoorMs
namespace Go.Proofs.YtebiidfpgdolnaaDoor.Dmp
open Go.ChangeShapes Go.WideShapes Go.ChangeAt Go.RowKit Go.Deep
set_option linter.unusedVariables false
open Go.Lib
set_option linter.unusedSimpArgs false

theorem info9 : (Tryd.prog.info? 9).map (fun i => (i.zero, i.size, i.bytes)) = some (some (.string ⟨#[]⟩), 1, 16) := by kernel_rfl
theorem und50s : Tryd.prog.underlying 50 = some (.slice 9) := by kernel_rfl

set_option maxRecDepth 100000 in
set_option maxHeartbeats 3200000 in
theorem add_any (B x : Nat) (lv : Value) (n m c : Nat) (xs news : List Value) (ad : Addr) (w : World) (hx : w.cell? ⟨x, 0, none⟩ = some lv) (hown : w.ownsRow B 9 1 lv n xs)
    (hl : news.length = m) (hnews : ∀ j u, news[j]? = some u → w.cell? (ad.add j) = some u) (h1 : ∀ u ∈ news, u.oneCell' = true) (hm : m ≤ 10) (hn : n ≤ 1000) (hB : B ≤ w.heap.size) :
    Calls Tryd.prog 47 #[.slice (some ad) m c, .pointer (some ⟨x, 0, none⟩)] w fun e w' => ∃ v', e = .returned v' ∧ w'.ownsRow B 9 1 v' (n + m) (xs ++ news) ∧ w.grownBy w' lv.ownBlock := by
  obtain ⟨i9, hi9, hz0, hz1, hz2⟩ := info_parts' info9
  have HX := Lib.hid (And.intro hown (And.intro hnews (And.intro h1 (And.intro hl hB))))
  clear hown hnews h1 hl hB
  obtain ⟨ao, cp, rfl⟩ : ∃ ao cp, lv = .slice ao n cp := by
    rcases HX.out.1.2 with ⟨h1, h2⟩ | ⟨gg, cap, cur, h1, _⟩
    · exact ⟨none, 0, by rw [h1, h2]⟩
    · exact ⟨_, cap, h1⟩
  go_enter Tryd.func47, Tryd.ntmps47
  go_wp2_with (at_builtin; refine wpList_append_own _ rfl _ _ 50 rfl B 9 i9 _ 1 16 und50s hi9 hz0 hz1 hz2 rfl (by decide) _ n xs (by rfl) (by exact HX.out.1) ad m c news (by rfl) (by rw [HX.out.2.2.2.1, Nat.mul_one]) (by exact HX.out.2.1) HX.out.2.2.1 (by unfold maxLen; omega) (by omega) HX.out.2.2.2.2 ?_)
  intro v5 w5 hown5 hg5 hiff
  have HR := Lib.hid (And.intro hown5 hg5)
  clear hown5 hg5 hiff
  go_wp2_with fail
  go_ret
  exact ⟨_, rfl, HR.out.1, HR.out.2⟩

end Go.Proofs.YtebiidfpgdolnaaDoor.Dmp

namespace Go.Proofs.YtebiidfpgdolnaaDoor.Dmp
open Go.ChangeShapes Go.WideShapes Go.ChangeAt Go.RowKit Go.Deep
set_option linter.unusedVariables false
open Go.Lib
set_option linter.unusedSimpArgs false

theorem owns_below {w w' : World} {base size n : Nat} {e : TypeId} {v : Value} {xs : List Value} (h : w.ownsRow base e size v n xs) (hb : Below w.heap.size w w') : w'.ownsRow base e size v n xs := by
  obtain ⟨h1, h2⟩ := h
  refine ⟨h1, ?_⟩
  rcases h2 with h2 | ⟨g, cap, cur, rfl, h3, h4, h5⟩
  · exact .inl h2
  · refine .inr ⟨g, cap, cur, rfl, h3, ?_, h5⟩
    rw [hb.block g (lt_of_block h4)]
    exact h4
def strW (l : List ByteArray) : List Value := l.map Value.string
/-- What words' regions begin with: the frame's box, the variable l, its row. -/
structure WS (w wx : World) (cs : Array Value) (lv : Value) (ws : List ByteArray) : Prop where
  be : Below w.heap.size w wx
  bx : Blk wx w.heap.size 26 cs
  va : Blk wx (w.heap.size + 1 + 1) 50 #[lv]
  ow : wx.ownsRow (w.heap.size + 1) 9 1 lv ws.length (strW ws)
theorem WS.start (w : World) (cs : Array Value) (d : Nat) :
    WS w ((((w.alloc (.cells cs 26)).alloc (.cells #[] 9)).alloc (.cells #[.slice (some ⟨w.heap.size + 1, 0, none⟩) 0 0] 50)).drewN d) cs (.slice (some ⟨w.heap.size + 1, 0, none⟩) 0 0) [] := by
  have b0 := Below.step (Below.refl w.heap.size w) (.cells cs 26)
  have b1 : Below w.heap.size w ((w.alloc (.cells cs 26)).alloc (.cells #[] 9)) := Below.step b0 (.cells #[] 9)
  have b2 : Below w.heap.size w (((w.alloc (.cells cs 26)).alloc (.cells #[] 9)).alloc (.cells #[.slice (some ⟨w.heap.size + 1, 0, none⟩) 0 0] 50)) := Below.step b1 (.cells #[.slice (some ⟨w.heap.size + 1, 0, none⟩) 0 0] 50)
  have k0 := ((Blk.new w 26 cs).alloc (.cells #[] 9)).alloc (.cells #[.slice (some ⟨w.heap.size + 1, 0, none⟩) 0 0] 50)
  have k1 := Blk.new ((w.alloc (.cells cs 26)).alloc (.cells #[] 9)) 50 #[.slice (some ⟨w.heap.size + 1, 0, none⟩) 0 0]
  have k2 := (Blk.new (w.alloc (.cells cs 26)) 9 #[]).alloc (.cells #[.slice (some ⟨w.heap.size + 1, 0, none⟩) 0 0] 50)
  have e1 : (w.alloc (.cells cs 26)).heap.size = w.heap.size + 1 := by simp
  have e2 : ((w.alloc (.cells cs 26)).alloc (.cells #[] 9)).heap.size = w.heap.size + 1 + 1 := by simp
  rw [e2] at k1
  rw [e1] at k2
  refine ⟨below_drewN b2 d, k0.drewN d, k1.drewN d, rfl, .inr ⟨w.heap.size + 1, 0, #[], rfl, Nat.le_refl _, ?_, Nat.le_refl _, Nat.zero_le _, rfl, rfl⟩⟩
  exact k2.drewN d
theorem WS.below {w wx wy : World} {cs : Array Value} {lv : Value} {ws : List ByteArray} (h : WS w wx cs lv ws) (hb : Below wx.heap.size wx wy) : WS w wy cs lv ws where
  be := h.be.trans (hb.mono h.be.size)
  bx := h.bx.below hb h.bx.lt
  va := h.va.below hb h.va.lt
  ow := owns_below h.ow hb
theorem WS.drewN {w wx : World} {cs : Array Value} {lv : Value} {ws : List ByteArray} (h : WS w wx cs lv ws) (d : Nat) : WS w (wx.drewN d) cs lv ws := h.below (below_drewN (Below.refl _ _) d)
theorem WS.alloc {w wx : World} {cs : Array Value} {lv : Value} {ws : List ByteArray} (h : WS w wx cs lv ws) (o : Obj) : WS w (wx.alloc o) cs lv ws := h.below (Below.step (Below.refl _ _) o)
/-- The row of the words lies in neither. -/
theorem WS.own {w wx : World} {cs : Array Value} {lv : Value} {ws : List ByteArray} (h : WS w wx cs lv ws) : ∀ k, lv.ownBlock = some k → k ≠ w.heap.size ∧ k ≠ w.heap.size + 1 + 1 := by
  intro k hk
  refine ⟨by have := (h.ow.lt k hk).1; omega, fun he => ?_⟩
  subst he
  rcases h.ow.2 with ⟨rfl, _⟩ | ⟨g, cap, cur, rfl, _, h4, _⟩
  · cases hk
  · injection hk with hk
    have hv := h.va
    unfold Blk at hv
    have hk' : g = w.heap.size + 1 + 1 := hk
    rw [hk', hv] at h4
    injection h4 with h4
    injection h4 with _ h5
    cases h5
/-- Words laid behind those that are there. -/
theorem addw_any (w wx : World) (cs : Array Value) (lv : Value) (ws nw : List ByteArray) (h : WS w wx cs lv ws) (ad : Addr) (m c : Nat) (hl : nw.length = m) (hn : ∀ j u, (strW nw)[j]? = some u → wx.cell? (ad.add j) = some u) (hm : m ≤ 10) (hw : ws.length ≤ 1000) :
    Calls Tryd.prog 47 #[.slice (some ad) m c, .pointer (some ⟨w.heap.size + 1 + 1, 0, none⟩)] wx fun e w' => ∃ v, e = .returned v ∧ w'.ownsRow (w.heap.size + 1) 9 1 v (ws ++ nw).length (strW (ws ++ nw)) ∧ Below w.heap.size w w' ∧ Blk w' w.heap.size 26 cs ∧ Blk w' (w.heap.size + 1 + 1) 50 #[lv] ∧ ∀ g T ds, T ≠ 9 → Blk wx g T ds → Blk w' g T ds := by
  refine (add_any (w.heap.size + 1) (w.heap.size + 1 + 1) lv ws.length m c (strW ws) (strW nw) ad wx (h.va.cell 0) h.ow (by simp [strW, hl]) hn (by simp [strW, Value.oneCell']) hm hw (by have := h.va.lt; omega)).mono ?_
  rintro e w' ⟨v, rfl, h1, h2⟩
  refine ⟨v, rfl, ?_, h.be.grown h2 h.be.size (fun k hk => by have := (h.ow.lt k hk).1; omega), ?_, ?_, ?_⟩
  · rw [List.length_append, hl, show strW (ws ++ nw) = strW ws ++ strW nw by simp [strW]]
    exact h1
  · exact (h2.block _ h.bx.lt (fun he => (h.own _ he.symm).1 rfl)).trans h.bx
  · exact (h2.block _ h.va.lt (fun he => (h.own _ he.symm).2 rfl)).trans h.va
  · intro g T ds hT hB
    refine (h2.block _ hB.lt (fun he => ?_)).trans hB
    rcases h.ow.2 with ⟨rfl, _⟩ | ⟨g2, cap, cur, rfl, _, h4, _⟩
    · cases he
    · have he' : g = g2 := by injection he
      subst he'
      unfold Blk at hB
      rw [hB] at h4
      injection h4 with h4
      injection h4 with _ h5
      exact hT h5

/-- A row's cells in a new block. -/
theorem row_cells {w : World} {g : Nat} {ws : List ByteArray} (h : Blk w g 9 (strW ws).toArray) : ∀ j u, (strW ws)[j]? = some u → w.cell? ((⟨g, 0, none⟩ : Addr).add j) = some u := by
  intro j u hu
  rw [Addr.add_lit, h.cell]
  simpa using hu

/-- The words stored into the variable. -/
theorem WS.put {w w6 : World} {cs : Array Value} {lv v : Value} {ws : List ByteArray} (ho : w6.ownsRow (w.heap.size + 1) 9 1 v ws.length (strW ws)) (hb : Below w.heap.size w w6) (hx : Blk w6 w.heap.size 26 cs) (hv : Blk w6 (w.heap.size + 1 + 1) 50 #[lv]) :
    WS w (w6.setCell ⟨w.heap.size + 1 + 1, 0, none⟩ v) cs v ws where
  be := hb.setCell (by show w.heap.size ≤ w.heap.size + 1 + 1; omega) v
  bx := hx.far (by show w.heap.size ≠ w.heap.size + 1 + 1; omega) v
  va := hv.store 0 v
  ow := by
    obtain ⟨h1, h2⟩ := ho
    refine ⟨h1, ?_⟩
    rcases h2 with h2 | ⟨g, cap, cur, rfl, h3, h4, h5⟩
    · exact .inl h2
    · refine .inr ⟨g, cap, cur, rfl, h3, ?_, h5⟩
      have hg : g ≠ w.heap.size + 1 + 1 := by
        rintro rfl
        unfold Blk at hv
        rw [hv] at h4
        injection h4 with h4
        injection h4 with _ h6
        cases h6
      exact (Below.heap_setCell w6 ⟨w.heap.size + 1 + 1, 0, none⟩ _ g hg).trans h4

end Go.Proofs.YtebiidfpgdolnaaDoor.Dmp

namespace Go.Proofs.YtebiidfpgdolnaaDoor.Dmp
open Go.ChangeShapes Go.WideShapes Go.ChangeAt Go.RowKit Go.Deep
set_option linter.unusedVariables false
open Go.Lib
set_option linter.unusedSimpArgs false

/-- A right frame's words, as the program puts them together. -/
def wordsB (f : Fr) : List ByteArray :=
  if f.ty = 0 then [pkB true ⟨#[100, 97, 116, 97]⟩ ⟨#[105, 116, 101, 109]⟩, dgN f.st, hexB f.da, pkB f.en ⟨#[101, 110, 100]⟩ ⟨#[109, 111, 114, 101]⟩]
  else if f.ty = 1 then [pkB false ⟨#[100, 97, 116, 97]⟩ ⟨#[105, 116, 101, 109]⟩, dgN f.st, hexB f.da, pkB f.en ⟨#[101, 110, 100]⟩ ⟨#[109, 111, 114, 101]⟩]
  else if f.ty = 2 then [⟨#[111, 112, 101, 110]⟩, dgN f.st, pkB (f.ki == 1) ⟨#[98, 121, 116, 101, 115]⟩ ⟨#[105, 116, 101, 109, 115]⟩, dgN f.on, dgN f.we, pkB f.ex ⟨#[97, 108, 111, 110, 101]⟩ ⟨#[97, 109, 111, 110, 103]⟩]
  else if f.ty = 3 then [⟨#[112, 114, 105, 111, 114, 105, 116, 121]⟩, dgN f.st, dgN f.on, dgN f.we, pkB f.ex ⟨#[97, 108, 111, 110, 101]⟩ ⟨#[97, 109, 111, 110, 103]⟩]
  else if f.ty = 4 then [⟨#[114, 101, 115, 101, 116]⟩, dgN f.st, dgN f.co]
  else if f.ty = 5 then ⟨#[115, 101, 116, 116, 105, 110, 103, 115]⟩ :: f.ps.map fun p => (dgN p.1 ++ ⟨#[58]⟩) ++ dgN p.2
  else if f.ty = 6 then [⟨#[97, 99, 107]⟩]
  else if f.ty = 7 then [pkB true ⟨#[112, 105, 110, 103]⟩ ⟨#[112, 111, 110, 103]⟩, hexB f.da]
  else if f.ty = 8 then [pkB false ⟨#[112, 105, 110, 103]⟩ ⟨#[112, 111, 110, 103]⟩, hexB f.da]
  else if f.ty = 9 then [⟨#[103, 111, 97, 119, 97, 121]⟩, dgN f.la, dgN f.co]
  else if f.ty = 10 then [pkB true ⟨#[119, 105, 110, 100, 111, 119]⟩ ⟨#[114, 101, 113, 117, 101, 115, 116]⟩, dgN f.st, dgN f.n]
  else [pkB false ⟨#[119, 105, 110, 100, 111, 119]⟩ ⟨#[114, 101, 113, 117, 101, 115, 116]⟩, dgN f.st, dgN f.n]

theorem ddgb_any (n : Int) (h : N31 n) (w : World) : Calls Tryd.prog 48 #[.int .i64 n] w fun e w' => e = .returned (.string (dgN n)) ∧ Below w.heap.size w w' :=
  (ddg_any n h w).mono fun e w' h => ⟨h.1, by obtain ⟨m, rfl⟩ := h.2; exact below_drewN (Below.refl _ _) m⟩

end Go.Proofs.YtebiidfpgdolnaaDoor.Dmp
