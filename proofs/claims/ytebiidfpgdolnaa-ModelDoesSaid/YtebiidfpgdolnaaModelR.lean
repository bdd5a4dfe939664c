import Derived.Test.YtebiidfpgdolnaaModelY
namespace Go.Proofs.Ytebiidfpgdolnaa.Model
open Go.ChangeShapes Go.WideShapes Go.ChangeAt Go.RowKit Go.Deep
set_option linter.unusedVariables false
open Go.Lib
set_option linter.unusedSimpArgs false

/-! ### The document's flow. -/
def Dual (w w' : World) (u x : Nat) : Prop := w'.os = w.os ∧ w'.tape = w.tape ∧ w'.output = w.output ∧ w.heap.size ≤ w'.heap.size ∧ ∀ i, i < w.heap.size → i ≠ u → i ≠ x → w'.heap[i]? = w.heap[i]?
theorem Dual.of {w w' : World} {u x : Nat} (h : w.grownBy w' (some u)) : Dual w w' u x := ⟨h.os, h.tape, h.output, h.size, fun i hi h1 _ => h.block i hi (fun e => h1 (by injection e))⟩
theorem Dual.of2 {w w' : World} {u x : Nat} (h : w.grownBy w' (some x)) : Dual w w' u x := ⟨h.os, h.tape, h.output, h.size, fun i hi _ h1 => h.block i hi (fun e => h1 (by injection e))⟩
theorem Dual.new {w w' : World} {u x : Nat} (h : Below w.heap.size w w') : Dual w w' u x := ⟨h.os, h.tape, h.output, h.size, fun i hi _ _ => h.block i hi⟩
theorem Dual.trans {a b c : World} {u x : Nat} (h : Dual a b u x) (k : Dual b c u x) : Dual a c u x :=
  ⟨k.1.trans h.1, k.2.1.trans h.2.1, k.2.2.1.trans h.2.2.1, Nat.le_trans h.2.2.2.1 k.2.2.2.1, fun i hi h1 h2 => (k.2.2.2.2 i (Nat.lt_of_lt_of_le hi h.2.2.2.1) h1 h2).trans (h.2.2.2.2 i hi h1 h2)⟩
theorem RdL.dual {w w' : World} {lo size n u x : Nat} {v : Value} {xs : List Value} (h : RdL w lo size v n xs) (hd : Dual w w' u x) (hu : u < lo) (hx : x < lo) : RdL w' lo size v n xs :=
  h.keep hd.2.2.2.1 fun i hi hl => hd.2.2.2.2 i hi (by omega) (by omega)
theorem Blk.dual {w w' : World} {g u x : Nat} {t : TypeId} {cs : Array Value} (h : Blk w g t cs) (hd : Dual w w' u x) (hu : g ≠ u) (hx : g ≠ x) : Blk w' g t cs := (hd.2.2.2.2 g h.lt hu hx).trans h
theorem FlowAt.dual {w w' : World} {g lo u x : Nat} {t : St} (h : FlowAt w g lo t) (hd : Dual w w' u x) (hu : g ≠ u) (hx : g ≠ x) (hul : u < lo) (hxl : x < lo) : FlowAt w' g lo t := by
  obtain ⟨h0, vw, vy, vt, h1, h2, h3, h4⟩ := h
  exact ⟨h0, vw, vy, vt, Blk.dual h1 hd hu hx, h2.dual hd hul hxl, h3.dual hd hul hxl, h4.dual hd hul hxl⟩

def txCells (t : St) (vL : Value) : Array Value := #[.int .i64 t.k, .int .i64 t.c, .int .i64 t.s, .string t.y, vL, .int .i64 1, .bool t.en, .bool t.ou, .int .i64 t.ac, .int .i64 0, .int .i64 t.dr]
def rfCells (t : St) (u : Nat) (vWay vV : Value) : Array Value := #[.pointer (some ⟨u, 0, none⟩), vWay, .string t.z, vV, .bool t.ca, .int .i64 t.tl]
def RefF (w : World) (u x lo : Nat) (t : St) : Prop :=
  u < lo ∧ x < lo ∧ u ≠ x ∧ ∃ vL vWay vV, Blk w u 44 (txCells t vL) ∧ Blk w x 41 (rfCells t u vWay vV) ∧ RdL w lo 1 vL t.W.length (strs t.W) ∧ RdL w lo 2 vWay t.way.length (bits t.way) ∧ RdL w lo 1 vV t.V.length (strs t.V)
theorem RefF.grown {w w' : World} {u x lo g : Nat} {t : St} (h : RefF w u x lo t) (hg : w.grownBy w' (some g)) (hu : u ≠ g) (hx : x ≠ g) (hgl : g < lo) : RefF w' u x lo t := by
  obtain ⟨h0, h1, h2, vL, vWay, vV, h3, h4, h5, h6, h7⟩ := h
  exact ⟨h0, h1, h2, vL, vWay, vV, h3.grown hg (fun e => hu (by injection e)), h4.grown hg (fun e => hx (by injection e)), h5.grown hg hgl, h6.grown hg hgl, h7.grown hg hgl⟩
theorem RefF.below {w w' : World} {u x lo : Nat} {t : St} (h : RefF w u x lo t) (hb : Below w.heap.size w w') : RefF w' u x lo t := by
  obtain ⟨h0, h1, h2, vL, vWay, vV, h3, h4, h5, h6, h7⟩ := h
  exact ⟨h0, h1, h2, vL, vWay, vV, h3.below hb h3.lt, h4.below hb h4.lt, h5.below hb, h6.below hb, h7.below hb⟩

/-- What Put does to the items; what it tells. -/
def putOf (c s : Int) (W : List ByteArray) (x : ByteArray) : List ByteArray × Int :=
  if (W.length : Int) < c then (W ++ [x], 1) else if s = 0 then (W, 0) else if s = 1 ∨ c = 0 then (W, 2) else (W.drop 1 ++ [x], 3)

theorem Blk.ownEmpty {w : World} {g B : Nat} {e : TypeId} {size : Nat} (h : Blk w g e #[]) (hB : B ≤ g) : w.ownsRow B e size (.slice (some ⟨g, 0, none⟩) 0 0) 0 [] :=
  ⟨by simp, .inr ⟨g, 0, #[], rfl, hB, h, Nat.le_refl _, Nat.zero_le _, by simp, by simp⟩⟩

theorem put_fin {w w6 : World} {qb lo H m : Nat} {c s a d : Int} {L : List ByteArray} {v6 vOld : Value} (hH : w.heap.size = H) (hb : Below H w w6) (hq : Blk w6 qb 67 #[.int .i64 c, .int .i64 s, vOld, .int .i64 a, .int .i64 0, .int .i64 d]) (hown : w6.ownsRow H 9 1 v6 m (strs L)) (hqb : qb < H) (hlo : lo ≤ H) :
    (∃ vL' a d, Blk (w6.setCell ⟨qb, 2, none⟩ v6) qb 67 #[.int .i64 c, .int .i64 s, vL', .int .i64 a, .int .i64 0, .int .i64 d] ∧ RdL (w6.setCell ⟨qb, 2, none⟩ v6) lo 1 vL' L.length (strs L)) ∧ w.grownBy (w6.setCell ⟨qb, 2, none⟩ v6) (some qb) := by
  subst hH
  have hm : m = L.length := by have := hown.1; rw [strs_length] at this; omega
  subst hm
  exact ⟨⟨v6, a, d, hq.store 2 v6, RdL.owned (ownsRow_setCell_below hown (a := ⟨qb, 2, none⟩) hqb v6) hlo⟩, only_setCell (only_new hb (some qb)) (.inl rfl) v6⟩
theorem put_fin3 {w w6 : World} {qb lo H m : Nat} {c s a d z : Int} {L : List ByteArray} {v6 vOld : Value} (hH : w.heap.size = H) (hb : Below H w w6) (hq : Blk w6 qb 67 #[.int .i64 c, .int .i64 s, vOld, .int .i64 a, .int .i64 0, .int .i64 d]) (hown : w6.ownsRow H 9 1 v6 m (strs L)) (hqb : qb < H) (hlo : lo ≤ H) :
    (∃ vL' a d, Blk ((w6.setCell ⟨qb, 2, none⟩ v6).setCell ⟨qb, 3, none⟩ (.int .i64 z)) qb 67 #[.int .i64 c, .int .i64 s, vL', .int .i64 a, .int .i64 0, .int .i64 d] ∧ RdL ((w6.setCell ⟨qb, 2, none⟩ v6).setCell ⟨qb, 3, none⟩ (.int .i64 z)) lo 1 vL' L.length (strs L)) ∧ w.grownBy ((w6.setCell ⟨qb, 2, none⟩ v6).setCell ⟨qb, 3, none⟩ (.int .i64 z)) (some qb) := by
  subst hH
  have hm : m = L.length := by have := hown.1; rw [strs_length] at this; omega
  subst hm
  exact ⟨⟨v6, z, d, (hq.store 2 v6).store 3 _, RdL.owned (ownsRow_setCell_below (ownsRow_setCell_below hown (a := ⟨qb, 2, none⟩) hqb v6) (a := ⟨qb, 3, none⟩) hqb _) hlo⟩, only_setCell (g := qb) (only_setCell (g := qb) (only_new hb (some qb)) (.inl rfl) v6) (.inl rfl) _⟩
theorem one_strs (L : List ByteArray) : ∀ u ∈ strs L, u.oneCell' = true := by
  intro u hu
  obtain ⟨x, _, rfl⟩ := List.mem_map.1 hu
  rfl

set_option maxRecDepth 100000 in
set_option maxHeartbeats 3200000 in
theorem put_any (qb lo : Nat) (c s : Int) (W : List ByteArray) (x : ByteArray) (vL : Value) (w0 w : World) (hc : 0 ≤ c) (hn : W.length ≤ 10000) (hq : Blk w qb 67 #[.int .i64 c, .int .i64 s, vL, .int .i64 0, .int .i64 0, .int .i64 0]) (hb : Below w0.heap.size w0 w) (hqb : w0.heap.size ≤ qb) (hL : RdL w0 lo 1 vL W.length (strs W)) (hlo : lo ≤ w0.heap.size) :
    Calls Try.prog 33 #[.pointer (some ⟨qb, 0, none⟩), .string x] w fun f w' => f = .returned (.int .i64 (putOf c s W x).2) ∧ (∃ vL' a d, Blk w' qb 67 #[.int .i64 c, .int .i64 s, vL', .int .i64 a, .int .i64 0, .int .i64 d] ∧ RdL w' lo 1 vL' (putOf c s W x).1.length (strs (putOf c s W x).1)) ∧ w.grownBy w' (some qb) := by
  have hLw := hL.below hb
  have hqlt := hq.lt
  obtain ⟨ao, cap, rfl, hcap, hnone, hcell⟩ := hLw.cap_of
  have c0 : w.cell? ⟨qb, 0, none⟩ = some (.int .i64 c) := hq.cell 0
  have c2 : w.cell? ⟨qb, 2, none⟩ = some (.slice ao W.length cap) := hq.cell 2
  have c3 : w.cell? ⟨qb, 3, none⟩ = some (.int .i64 0) := hq.cell 3
  have f2 := hq.frozen 2
  have f3 := hq.frozen 3
  obtain ⟨i9, hi9, hz0, hz1, hz2⟩ := info_parts info9
  obtain ⟨H, hH⟩ : ∃ H, w.heap.size = H := ⟨_, rfl⟩
  have hqw := hqlt
  rw [hH] at hqlt
  have hloH : lo ≤ H := by have := hb.size; omega
  have hH2 : H ≤ w.heap.size := by omega
  have HH := Lib.hid hH
  have hown0 : ∀ d, ((w.drewN d).alloc (.cells #[] 9)).ownsRow H 9 1 (.slice (some ⟨w.heap.size, 0, none⟩) 0 0) 0 [] := fun d => Blk.ownEmpty (Blk.new (w.drewN d) 9 #[]) (by rw [← hH]; exact Nat.le_refl _)
  have hbel0 : ∀ d, Below H w ((w.drewN d).alloc (.cells #[] 9)) := fun d => (below_drewN (by rw [← hH]; exact Below.refl _ _) d).alloc (by show H ≤ w.heap.size; omega) _
  have hq0 : ∀ d, Blk ((w.drewN d).alloc (.cells #[] 9)) qb 67 #[.int .i64 c, .int .i64 s, .slice ao W.length cap, .int .i64 0, .int .i64 0, .int .i64 0] := fun d => (hq.drewN d).alloc _
  have hcel0 : ∀ d b, ao = some b → ∀ j u, (strs W)[j]? = some u → ((w.drewN d).alloc (.cells #[] 9)).cell? (b.add j) = some u := fun d => by
    obtain ⟨ao', cap', h1, _, _, h5⟩ := (hLw.below ((below_drewN (Below.refl _ _) d).alloc (Nat.le_refl _) (.cells #[] 9))).cap_of
    injection h1 with h1 _ _
    subst h1
    exact h5
  have hnb0 : ∀ d, Blk (((w.drewN d).alloc (.cells #[] 9)).alloc (.cells #[.string x] 9)) (w.heap.size + 1) 9 #[.string x] := fun d => by
    have := Blk.new ((w.drewN d).alloc (.cells #[] 9)) 9 #[.string x]
    rw [show ((w.drewN d).alloc (.cells #[] 9)).heap.size = w.heap.size + 1 by simp [World.drewN]] at this
    exact this
  have HP := Lib.hid (And.intro hown0 (And.intro hbel0 (And.intro hq0 (And.intro hcel0 (And.intro hnb0 (And.intro hq hLw))))))
  have HL0 := Lib.hid hL
  clear hown0 hbel0 hq0 hcel0 hnb0 hLw hL hcell hq hH
  by_cases hroom : (W.length : Int) < c
  · have hr : putOf c s W x = (W ++ [x], 1) := by unfold putOf; rw [if_pos hroom]
    cases ao with
    | none =>
      obtain ⟨h0, rfl⟩ := hnone rfl
      obtain rfl : W = [] := List.eq_nil_of_length_eq_zero h0
      have c2 : w.cell? ⟨qb, 2, none⟩ = some (.slice none 0 0) := c2
      have hroom0 : (0 : Int) < c := hroom
      have hr := hr
      go_enter Try.func33, Try.ntmps33
      go_wp2_with fail
      go_quiet (fail)
      go_wp2_with (at_builtin; refine wpList_append_own _ rfl _ _ 39 rfl H 9 i9 _ 1 16 und39 hi9 hz0 hz1 hz2 rfl (by decide) _ _ _ rfl (by exact (HP.out.1 _).alloc _) ⟨w.heap.size + 1, 0, none⟩ 1 1 [.string x] (by simp [Act.eval]) rfl (by exact one_cell (HP.out.2.2.2.2.1 _)) (by simp [Value.oneCell']) (by unfold maxLen; omega) (by omega) (by simp; omega) ?_)
      intro v6 w6 hown6 hg6 hiff6
      have hb6 : Below H w w6 := ((HP.out.2.1 _).alloc (by simp; omega) (.cells #[.string x] 9)).grown hg6 (by simp; omega) (fun k hk => (HP.out.1 0).lt k hk |>.1)
      have hq6 := Blk.grown ((HP.out.2.2.1 _).alloc (.cells #[.string x] 9)) hg6 (fun e => by have := ((HP.out.1 0).lt qb e.symm).1; omega)
      obtain ⟨a6, k6, rfl⟩ := own_slice hown6
      have e2 := hq6.cell 2
      have e3 := hq6.cell 3
      have g2 := hq6.frozen 2
      have g3 := hq6.frozen 3
      have HR := Lib.hid (put_fin3 (z := 1) (L := [x]) (w := w) (lo := lo) HH.out hb6 hq6 (by simpa [strs] using hown6) hqlt hloH)
      clear hown6 hg6 hiff6 hb6 hq6
      go_wp2_with fail
      go_ret
      rw [hr]
      exact ⟨rfl, HR.out⟩
    | some p =>
      have hlen := strs_length W
      obtain ⟨n, hnn⟩ : ∃ n, W.length = n := ⟨_, rfl⟩
      have hnn2 := Lib.hid hnn
      rw [hnn] at c2 hcap hn hroom hlen
      clear hnn
      go_enter Try.func33, Try.ntmps33
      go_wp2_with fail
      go_quiet (fail)
      go_wp2_with (at_builtin; refine wpList_append_own _ rfl _ _ 39 rfl H 9 i9 _ 1 16 und39 hi9 hz0 hz1 hz2 rfl (by decide) _ _ _ rfl (by exact HP.out.1 _) p n cap (strs W) (by simp [Act.eval]) hlen (by exact HP.out.2.2.2.1 _ p rfl) (one_strs W) (by unfold maxLen; omega) (by omega) (by simp; omega) ?_)
      intro v5 w5 hown5 hg5 hiff5
      have hb5 : Below H w w5 := (HP.out.2.1 _).grown hg5 (by simp; omega) (fun k hk => ((HP.out.1 0).lt k hk).1)
      have hq5 := Blk.grown (HP.out.2.2.1 _) hg5 (fun e => by have := ((HP.out.1 0).lt qb e.symm).1; omega)
      have hl5 := hown5.lt
      have hz5 : H ≤ w5.heap.size := by have := hb5.size; omega
      have hnb5 := Blk.new w5 9 #[.string x]
      have H5 := Lib.hid (And.intro hown5 (And.intro hb5 (And.intro hq5 (And.intro hl5 hnb5))))
      clear hown5 hg5 hiff5 hb5 hq5 hl5 hnb5
      have hql5 : qb < w5.heap.size := by omega
      go_wp2_with (at_builtin; refine wpList_append_own _ rfl _ _ 39 rfl H 9 i9 _ 1 16 und39 hi9 hz0 hz1 hz2 rfl (by decide) _ _ _ rfl (by exact H5.out.1.alloc _) ⟨w5.heap.size, 0, none⟩ 1 1 [.string x] (by simp [Act.eval]) rfl (by exact one_cell H5.out.2.2.2.2) (by simp [Value.oneCell']) (by unfold maxLen; omega) (by omega) (by simp; omega) ?_)

      intro v6 w6 hown6 hg6 hiff6
      have hb6 : Below H w w6 := (H5.out.2.1.alloc hz5 (.cells #[.string x] 9)).grown hg6 (by simp; omega) (fun k hk => H5.out.1.lt k hk |>.1)
      have hq6 := Blk.grown (H5.out.2.2.1.alloc (.cells #[.string x] 9)) hg6 (fun e => by have := (H5.out.1.lt qb e.symm).1; omega)
      obtain ⟨a6, k6, rfl⟩ := own_slice hown6
      have e2 := hq6.cell 2
      have e3 := hq6.cell 3
      have g2 := hq6.frozen 2
      have g3 := hq6.frozen 3
      have HR := Lib.hid (put_fin3 (z := 1) (L := W ++ [x]) (w := w) (lo := lo) HH.out hb6 hq6 (by simpa [strs] using hown6) hqlt hloH)
      clear hown6 hg6 hiff6 hb6 hq6
      go_wp2_with fail
      go_ret
      rw [hr]
      exact ⟨rfl, HR.out⟩
  · have hro2 : c ≤ (W.length : Int) := by omega
    have c1 : w.cell? ⟨qb, 1, none⟩ = some (.int .i64 s) := HP.out.2.2.2.2.2.1.cell 1
    have c5 : w.cell? ⟨qb, 5, none⟩ = some (.int .i64 0) := HP.out.2.2.2.2.2.1.cell 5
    have f5 := HP.out.2.2.2.2.2.1.frozen 5
    have hgw : ∀ d, w.grownBy (w.drewN d) (some qb) := fun d => only_drewN (World.grownBy.refl _ _) d
    have hgW : ∀ d, w.grownBy ((((w.drewN d).setCell ⟨qb, 3, none⟩ (.int .i64 1)).setCell ⟨qb, 5, none⟩ (.int .i64 1))) (some qb) := fun d => only_setCell (g := qb) (only_setCell (g := qb) (hgw d) (.inl rfl) _) (.inl rfl) _
    have hbW : ∀ d, Below w0.heap.size w0 ((((w.drewN d).setCell ⟨qb, 3, none⟩ (.int .i64 1)).setCell ⟨qb, 5, none⟩ (.int .i64 1))) := fun d => ((below_drewN hb d).setCell (p := ⟨qb, 3, none⟩) hqb _).setCell (p := ⟨qb, 5, none⟩) hqb _
    have hqW : ∀ d, Blk ((((w.drewN d).setCell ⟨qb, 3, none⟩ (.int .i64 1)).setCell ⟨qb, 5, none⟩ (.int .i64 1))) qb 67 #[.int .i64 c, .int .i64 s, .slice ao W.length cap, .int .i64 1, .int .i64 0, .int .i64 1] := fun d => ((HP.out.2.2.2.2.2.1.drewN d).store 3 _).store 5 _
    have hzW : ∀ d, ((((w.drewN d).setCell ⟨qb, 3, none⟩ (.int .i64 1)).setCell ⟨qb, 5, none⟩ (.int .i64 1))).heap.size = w.heap.size := fun d => by simp [World.setCell, World.drewN]
    have HW := Lib.hid (And.intro hgw (And.intro hgW (And.intro hbW (And.intro hqW hzW))))
    clear hgw hgW hbW hqW hzW
    by_cases hs0 : s = 0
    · have hr : putOf c s W x = (W, 0) := by unfold putOf; rw [if_neg hroom, if_pos hs0]
      rw [hs0] at c1
      go_enter Try.func33, Try.ntmps33
      go_wp2_with fail
      go_quiet (fail)
      go_wp2_with fail
      go_ret
      rw [hr]
      exact ⟨rfl, ⟨_, 0, 0, HP.out.2.2.2.2.2.1.drewN _, HP.out.2.2.2.2.2.2⟩, HW.out.1 _⟩
    have hs0b : (s == 0) = false := by simp [hs0]
    by_cases h1c : s = 1 ∨ c = 0
    · have hr : putOf c s W x = (W, 2) := by unfold putOf; rw [if_neg hroom, if_neg hs0, if_pos h1c]
      have hfin : ∀ d, RdL ((((w.drewN d).setCell ⟨qb, 3, none⟩ (.int .i64 1)).setCell ⟨qb, 5, none⟩ (.int .i64 1))) lo 1 (.slice ao W.length cap) W.length (strs W) := fun d => HL0.out.below (HW.out.2.2.1 d)
      have HF := Lib.hid hfin
      clear hfin
      by_cases hs1 : s = 1
      · rw [hs1] at c1
        go_enter Try.func33, Try.ntmps33
        go_wp2_with fail
        go_quiet (fail)
        go_wp2_with fail
        try go_quiet (fail)
        try go_wp2_with fail
        go_ret
        rw [hr]
        first
          | exact ⟨rfl, ⟨_, 1, 1, HW.out.2.2.2.1 nq, HF.out nq⟩, HW.out.2.1 nq⟩
          | exact ⟨rfl, ⟨_, 1, 1, HW.out.2.2.2.1 _, HF.out _⟩, HW.out.2.1 _⟩
      · have hc00 : c = 0 := by omega
        have hs1b : (s == 1) = false := by simp [hs1]
        rw [hc00] at c0 hro2
        go_enter Try.func33, Try.ntmps33
        go_wp2_with fail
        go_quiet (fail)
        go_wp2_with fail
        try go_quiet (fail)
        try go_wp2_with fail
        go_ret
        rw [hr]
        first
          | exact ⟨rfl, ⟨_, 1, 1, HW.out.2.2.2.1 nq, HF.out nq⟩, HW.out.2.1 nq⟩
          | exact ⟨rfl, ⟨_, 1, 1, HW.out.2.2.2.1 _, HF.out _⟩, HW.out.2.1 _⟩
    · have hr : putOf c s W x = (W.drop 1 ++ [x], 3) := by unfold putOf; rw [if_neg hroom, if_neg hs0, if_neg h1c]
      have hs1b : (s == 1) = false := by simp; omega
      have hc0b : (c == 0) = false := by simp; omega
      have hn1 : 0 < W.length := by omega
      obtain ⟨pb, po, cap', e1, _, hpb1, hpb2, _⟩ := HL0.out.some_of hn1
      injection e1 with e1 e5 e6
      subst e1
      clear e5 e6
      have ht := HL0.out.tail hn1
      have hdl : (W.drop 1).length = W.length - 1 := by simp
      have hds : strs (W.drop 1) = (strs W).drop 1 := by simp [strs]
      have hlen := strs_length (W.drop 1)
      rw [← hdl, ← hds] at ht
      obtain ⟨n, hnn⟩ : ∃ n, W.length = n := ⟨_, rfl⟩
      rw [hdl, hnn] at hlen
      have hd2 : (W.drop 1).length = n - 1 := by rw [hdl, hnn]
      rw [hd2] at ht
      have hownL : ∀ d, (((((w.drewN d).setCell ⟨qb, 3, none⟩ (.int .i64 1)).setCell ⟨qb, 5, none⟩ (.int .i64 1))).alloc (.cells #[] 9)).ownsRow H 9 1 (.slice (some ⟨w.heap.size, 0, none⟩) 0 0) 0 [] := fun d => by
        have h1 := Blk.new ((((w.drewN d).setCell ⟨qb, 3, none⟩ (.int .i64 1)).setCell ⟨qb, 5, none⟩ (.int .i64 1))) 9 #[]
        rw [HW.out.2.2.2.2 d] at h1
        exact Blk.ownEmpty h1 (by have := HH.out; omega)
      have hbelL : ∀ d, Below H ((((w.drewN 0).setCell ⟨qb, 3, none⟩ (.int .i64 1)).setCell ⟨qb, 5, none⟩ (.int .i64 1))) (((((w.drewN d).setCell ⟨qb, 3, none⟩ (.int .i64 1)).setCell ⟨qb, 5, none⟩ (.int .i64 1))).alloc (.cells #[] 9)) := fun d => Below.alloc (a := ((((w.drewN 0).setCell ⟨qb, 3, none⟩ (.int .i64 1)).setCell ⟨qb, 5, none⟩ (.int .i64 1)))) (w := ((((w.drewN d).setCell ⟨qb, 3, none⟩ (.int .i64 1)).setCell ⟨qb, 5, none⟩ (.int .i64 1)))) ⟨rfl, rfl, rfl, Nat.le_refl _, fun i hi => rfl⟩ (by rw [HW.out.2.2.2.2 d]; exact hH2) _
      have hqL : ∀ d, Blk (((((w.drewN d).setCell ⟨qb, 3, none⟩ (.int .i64 1)).setCell ⟨qb, 5, none⟩ (.int .i64 1))).alloc (.cells #[] 9)) qb 67 #[.int .i64 c, .int .i64 s, .slice (some ⟨pb, po, none⟩) W.length cap, .int .i64 1, .int .i64 0, .int .i64 1] := fun d => (HW.out.2.2.2.1 d).alloc _
      have hH0 : ((((w.drewN 0).setCell ⟨qb, 3, none⟩ (.int .i64 1)).setCell ⟨qb, 5, none⟩ (.int .i64 1))).heap.size = H := by rw [HW.out.2.2.2.2 0]; exact HH.out
      have hbw : ∀ d, Below w0.heap.size w0 (((((w.drewN d).setCell ⟨qb, 3, none⟩ (.int .i64 1)).setCell ⟨qb, 5, none⟩ (.int .i64 1))).alloc (.cells #[] 9)) := fun d => (HW.out.2.2.1 d).alloc (by rw [HW.out.2.2.2.2 d]; omega) _
      have hcelL : ∀ ao' k', RdL w0 lo 1 (.slice (some ao') (n - 1) k') (n - 1) (strs (W.drop 1)) → ∀ d j u, (strs (W.drop 1))[j]? = some u → (((((w.drewN d).setCell ⟨qb, 3, none⟩ (.int .i64 1)).setCell ⟨qb, 5, none⟩ (.int .i64 1))).alloc (.cells #[] 9)).cell? (ao'.add j) = some u := fun ao' k' hk d => by
        obtain ⟨a3, c3, h1, _, _, h5⟩ := (hk.below (hbw d)).cap_of
        injection h1 with h1 _ _
        exact h5 ao' h1.symm
      rw [hnn] at c2 hcap hn hro2 hn1
      have HX := Lib.hid (And.intro hownL (And.intro hbelL (And.intro hqL (And.intro hH0 (And.intro hcelL ht)))))
      clear hownL hbelL hqL hH0 hbw hcelL ht hdl hds hnn hd2
      have hn1i : (1 : Int) ≤ (n : Int) := by omega
      have hcapi : (n : Int) ≤ (cap : Int) := by omega
      by_cases hc1 : cap = 1
      · subst hc1
        obtain rfl : n = 1 := by omega
        have hcl := HX.out.2.2.2.2.1 ⟨pb, po, none⟩ 0 HX.out.2.2.2.2.2
        have HCL := Lib.hid hcl
        clear hcl
        have hro1 : c ≤ 1 := by omega
        clear hro2 hn1i hcapi hroom
        go_enter Try.func33, Try.ntmps33
        go_wp2_with fail
        go_quiet (fail)
        go_wp2_with (at_builtin; refine wpList_append_own _ rfl _ _ 39 rfl H 9 i9 _ 1 16 und39 hi9 hz0 hz1 hz2 rfl (by decide) _ _ _ rfl (by exact HX.out.1 _) ⟨pb, po, none⟩ 0 0 (strs (W.drop 1)) (by simp [Act.eval]) hlen (by exact HCL.out _) (one_strs _) (by unfold maxLen; omega) (by omega) (by simp; omega) ?_)
        intro v5 w5 hown5 hg5 hiff5
        have hb5 : Below H (((((w.drewN 0).setCell ⟨qb, 3, none⟩ (.int .i64 1)).setCell ⟨qb, 5, none⟩ (.int .i64 1)))) w5 := (HX.out.2.1 _).grown hg5 (by simp; omega) (fun k hk => ((HX.out.1 0).lt k hk).1)
        have hq5 := Blk.grown (HX.out.2.2.1 _) hg5 (fun e => by have := ((HX.out.1 0).lt qb e.symm).1; omega)
        have hl5 := hown5.lt
        have hz5 : H ≤ w5.heap.size := by have := hb5.size; have := HX.out.2.2.2.1; omega
        have hnb5 := Blk.new w5 9 #[.string x]
        have H5 := Lib.hid (And.intro hown5 (And.intro hb5 (And.intro hq5 (And.intro hl5 hnb5))))
        clear hown5 hg5 hiff5 hb5 hq5 hl5 hnb5
        have hql5 : qb < w5.heap.size := by omega
        go_wp2_with (at_builtin; refine wpList_append_own _ rfl _ _ 39 rfl H 9 i9 _ 1 16 und39 hi9 hz0 hz1 hz2 rfl (by decide) _ _ _ rfl (by exact H5.out.1.alloc _) ⟨w5.heap.size, 0, none⟩ 1 1 [.string x] (by simp [Act.eval]) rfl (by exact one_cell H5.out.2.2.2.2) (by simp [Value.oneCell']) (by unfold maxLen; omega) (by omega) (by simp; omega) ?_)

        intro v6 w6 hown6 hg6 hiff6
        have hb6 : Below H (((((w.drewN 0).setCell ⟨qb, 3, none⟩ (.int .i64 1)).setCell ⟨qb, 5, none⟩ (.int .i64 1)))) w6 := (H5.out.2.1.alloc hz5 (.cells #[.string x] 9)).grown hg6 (by simp; omega) (fun k hk => H5.out.1.lt k hk |>.1)
        have hq6 := Blk.grown (H5.out.2.2.1.alloc (.cells #[.string x] 9)) hg6 (fun e => by have := (H5.out.1.lt qb e.symm).1; omega)
        obtain ⟨a6, k6, rfl⟩ := own_slice hown6
        have e2 := hq6.cell 2
        have e3 := hq6.cell 3
        have g2 := hq6.frozen 2
        have g3 := hq6.frozen 3
        have HR := Lib.hid (put_fin (L := W.drop 1 ++ [x]) (w := ((((w.drewN 0).setCell ⟨qb, 3, none⟩ (.int .i64 1)).setCell ⟨qb, 5, none⟩ (.int .i64 1)))) (lo := lo) HX.out.2.2.2.1 hb6 hq6 (by simpa [strs] using hown6) hqlt hloH)
        clear hown6 hg6 hiff6 hb6 hq6
        go_wp2_with fail
        go_ret
        rw [hr]
        exact ⟨rfl, HR.out.1, only_trans (HW.out.2.1 0) HR.out.2⟩
      · have ht2 := HX.out.2.2.2.2.2
        rw [if_neg hc1] at ht2
        have hcl := HX.out.2.2.2.2.1 ⟨pb, po + 1, none⟩ _ ht2
        clear ht2
        have HCL := Lib.hid hcl
        clear hcl
        go_enter Try.func33, Try.ntmps33
        go_wp2_with fail
        go_quiet (fail)
        go_wp2_with (at_builtin; refine wpList_append_own _ rfl _ _ 39 rfl H 9 i9 _ 1 16 und39 hi9 hz0 hz1 hz2 rfl (by decide) _ _ _ rfl (by exact HX.out.1 _) ⟨pb, po + 1, none⟩ (n - 1) (cap - 1) (strs (W.drop 1)) (by simp [Act.eval]) hlen (by exact HCL.out _) (one_strs _) (by unfold maxLen; omega) (by omega) (by simp; omega) ?_)
        intro v5 w5 hown5 hg5 hiff5
        have hb5 : Below H (((((w.drewN 0).setCell ⟨qb, 3, none⟩ (.int .i64 1)).setCell ⟨qb, 5, none⟩ (.int .i64 1)))) w5 := (HX.out.2.1 _).grown hg5 (by simp; omega) (fun k hk => ((HX.out.1 0).lt k hk).1)
        have hq5 := Blk.grown (HX.out.2.2.1 _) hg5 (fun e => by have := ((HX.out.1 0).lt qb e.symm).1; omega)
        have hl5 := hown5.lt
        have hz5 : H ≤ w5.heap.size := by have := hb5.size; have := HX.out.2.2.2.1; omega
        have hnb5 := Blk.new w5 9 #[.string x]
        have H5 := Lib.hid (And.intro hown5 (And.intro hb5 (And.intro hq5 (And.intro hl5 hnb5))))
        clear hown5 hg5 hiff5 hb5 hq5 hl5 hnb5
        have hql5 : qb < w5.heap.size := by omega
        go_wp2_with (at_builtin; refine wpList_append_own _ rfl _ _ 39 rfl H 9 i9 _ 1 16 und39 hi9 hz0 hz1 hz2 rfl (by decide) _ _ _ rfl (by exact H5.out.1.alloc _) ⟨w5.heap.size, 0, none⟩ 1 1 [.string x] (by simp [Act.eval]) rfl (by exact one_cell H5.out.2.2.2.2) (by simp [Value.oneCell']) (by unfold maxLen; omega) (by omega) (by simp; omega) ?_)

        intro v6 w6 hown6 hg6 hiff6
        have hb6 : Below H (((((w.drewN 0).setCell ⟨qb, 3, none⟩ (.int .i64 1)).setCell ⟨qb, 5, none⟩ (.int .i64 1)))) w6 := (H5.out.2.1.alloc hz5 (.cells #[.string x] 9)).grown hg6 (by simp; omega) (fun k hk => H5.out.1.lt k hk |>.1)
        have hq6 := Blk.grown (H5.out.2.2.1.alloc (.cells #[.string x] 9)) hg6 (fun e => by have := (H5.out.1.lt qb e.symm).1; omega)
        obtain ⟨a6, k6, rfl⟩ := own_slice hown6
        have e2 := hq6.cell 2
        have e3 := hq6.cell 3
        have g2 := hq6.frozen 2
        have g3 := hq6.frozen 3
        have HR := Lib.hid (put_fin (L := W.drop 1 ++ [x]) (w := ((((w.drewN 0).setCell ⟨qb, 3, none⟩ (.int .i64 1)).setCell ⟨qb, 5, none⟩ (.int .i64 1)))) (lo := lo) HX.out.2.2.2.1 hb6 hq6 (by simpa [strs] using hown6) hqlt hloH)
        clear hown6 hg6 hiff6 hb6 hq6
        go_wp2_with fail
        go_ret
        rw [hr]
        exact ⟨rfl, HR.out.1, only_trans (HW.out.2.1 0) HR.out.2⟩

end Go.Proofs.Ytebiidfpgdolnaa.Model
