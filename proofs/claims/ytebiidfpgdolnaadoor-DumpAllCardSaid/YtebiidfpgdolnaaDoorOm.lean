import Derived.Test.YtebiidfpgdolnaaDoorOk
import Derived.Test.YtebiidfpgdolnaaDoorOh
namespace Go.Proofs.YtebiidfpgdolnaaDoor.Dmp
open Go.ChangeShapes Go.WideShapes Go.ChangeAt Go.RowKit Go.Deep
set_option linter.unusedVariables false
open Go.Lib Go.Shelf
set_option linter.unusedSimpArgs false

/-! ### No line has a newline -/
theorem hxd_10 (r : Nat) (h : r < 16) : hxd r ≠ 10 := by
  have hc : ((List.range 16).all fun n => decide (hxd n ≠ 10)) = true := by kernel_rfl
  exact of_decide_eq_true (List.all_eq_true.mp hc r (List.mem_range.mpr h))
theorem hexB_10 (s : ByteArray) : (10 : UInt8) ∉ (hexB s).data.toList := by
  intro h
  by_cases h0 : s = ByteArray.empty
  · rw [h0] at h
    revert h
    decide
  · rw [hexB_list h0 rfl] at h
    unfold hexL at h
    obtain ⟨u, -, hu⟩ := List.mem_flatMap.1 h
    have h256 : u.toNat < 256 := UInt8.toNat_lt _
    unfold hx1 at hu
    simp only [List.mem_cons, List.mem_nil_iff, or_false] at hu
    rcases hu with hu | hu
    · exact hxd_10 _ (by omega) hu.symm
    · exact hxd_10 _ (by omega) hu.symm
theorem dgN_10 (k : Int) : (10 : UInt8) ∉ (dgN k).data.toList := by
  intro h
  rw [dgN_list] at h
  have := digL_mem _ _ h
  have e : (10 : UInt8).toNat = 10 := rfl
  omega
theorem pkB_10 {b : Bool} {x y : ByteArray} (hx : (10 : UInt8) ∉ x.data.toList) (hy : (10 : UInt8) ∉ y.data.toList) : (10 : UInt8) ∉ (pkB b x y).data.toList := by
  cases b
  · exact hy
  · exact hx
theorem setW_10 (p : Int × Int) : (10 : UInt8) ∉ (setW p).data.toList := by
  intro h
  unfold setW at h
  rw [ByteArray.data_append, ByteArray.data_append] at h
  simp only [Array.toList_append, List.mem_append] at h
  rcases h with (h | h) | h
  · exact dgN_10 _ h
  · revert h; decide
  · exact dgN_10 _ h
theorem words_nl (ty st : Int) (en : Bool) (da : ByteArray) (ki on we : Int) (ex : Bool) (co la n : Int) (ps : List (Int × Int)) (hC : checkB ⟨ty, st, en, da, ki, on, we, ex, co, la, n, ps⟩ = true) : ∀ x ∈ wordsB ⟨ty, st, en, da, ki, on, we, ex, co, la, n, ps⟩, (10 : UInt8) ∉ x.data.toList := by
  obtain ⟨hF, hty⟩ := fits_of_check _ _ _ _ _ _ _ _ _ _ _ _ hC
  have hc : ty = 0 ∨ ty = 1 ∨ ty = 2 ∨ ty = 3 ∨ ty = 4 ∨ ty = 5 ∨ ty = 6 ∨ ty = 7 ∨ ty = 8 ∨ ty = 9 ∨ ty = 10 ∨ ty = 11 := by omega
  have hd := dgN_10
  have hh := hexB_10
  rcases hc with rfl | rfl | rfl | rfl | rfl | rfl | rfl | rfl | rfl | rfl | rfl | rfl
  case inr.inr.inr.inr.inr.inl =>
    intro x hx
    have hx' : x ∈ (⟨#[115, 101, 116, 116, 105, 110, 103, 115]⟩ : ByteArray) :: ps.map setW := hx
    rcases List.mem_cons.1 hx' with rfl | hx'
    · decide
    · obtain ⟨p, -, rfl⟩ := List.mem_map.1 hx'
      exact setW_10 p
  all_goals
    intro x hx
    simp only [wordsB, Int.reduceEq, ↓reduceIte, List.mem_cons, List.mem_nil_iff, or_false] at hx
    (repeat' (rcases hx with rfl | hx))
    all_goals
      first
        | exact hd _
        | exact hh _
        | decide
        | exact pkB_10 (by decide) (by decide)
/-- A sign of a text that is not the cut's lies in a part. -/
theorem spl_mem (c : UInt8) : ∀ (l : List UInt8) (x : UInt8), x ∈ l → x ≠ c → ∃ p ∈ spl c l, x ∈ p
  | [], x, h, _ => by simp at h
  | y :: r, x, h, hx => by
    unfold spl
    split
    · rename_i e
      rcases List.mem_cons.1 h with rfl | h
      · exact absurd e hx
      · obtain ⟨p, h1, h2⟩ := spl_mem c r x h hx
        exact ⟨p, by simp [h1], h2⟩
    · split
      · rename_i e; exact absurd e (spl_ne c r)
      · rename_i h0 t e
        rcases List.mem_cons.1 h with rfl | h
        · exact ⟨x :: h0, by simp, by simp⟩
        · obtain ⟨p, h1, h2⟩ := spl_mem c r x h hx
          rw [e] at h1
          rcases List.mem_cons.1 h1 with rfl | h1
          · exact ⟨y :: p, by simp, by simp [h2]⟩
          · exact ⟨p, by simp [h1], h2⟩
theorem line_nl {f : Fr} (hC : checkB f = true) : (10 : UInt8) ∉ (lineB f).data.toList := by
  intro h
  obtain ⟨p, h1, h2⟩ := spl_mem 32 _ _ h (by decide)
  have h3 : mkB p ∈ splB 32 (lineB f) := List.mem_map_of_mem h1
  rw [line_spl hC] at h3
  obtain ⟨ty, st, en, da, ki, on, we, ex, co, la, n, ps⟩ := f
  exact words_nl _ _ _ _ _ _ _ _ _ _ _ _ hC _ h3 h2

/-! ### Lines there and back -/
theorem cat_spl : ∀ l : List (Fr × Value), (∀ p ∈ l, checkB p.1 = true) → splB 10 (catB l) = l.map (fun p => lineB p.1) ++ [ByteArray.empty]
  | [], _ => splB_empty 10
  | p :: l, h => by
    have h1 : (catB (p :: l)).data.toList = (lineB p.1).data.toList ++ 10 :: (catB l).data.toList := by simp [catB, mkB]
    have ih := cat_spl l (fun q hq => h q (by simp [hq]))
    unfold splB at ih ⊢
    rw [h1, spl_cut 10 _ _ (line_nl (h p (by simp))), List.map_cons, ih]
    rfl
theorem frOf_line {f : Fr} (hC : checkB f = true) (w : World) : frOf (lineB f) = some f := by
  obtain ⟨ty, st, en, da, ki, on, we, ex, co, la, n, ps⟩ := f
  have hsz := line_size _ _ _ _ _ _ _ _ _ _ _ _ hC
  obtain ⟨e, w', -, ⟨hP, -⟩, -⟩ := dparse_any (lineB ⟨ty, st, en, da, ki, on, we, ex, co, la, n, ps⟩) (by omega) w []
  rcases hP with ⟨f2, pv2, h1, h2, h3, -⟩ | ⟨h1, -⟩
  · have e := h3 _ hC rfl
    rw [frOf_yes h1 h2 h3, e]
  · exact absurd rfl (h1 _ hC)
theorem lines_of : ∀ (l : List (Fr × Value)) (i : Nat) (o : List Fr) (w : World), (∀ p ∈ l, checkB p.1 = true) → i + l.length ≤ 512 → linesGo (l.map (fun p => lineB p.1) ++ [ByteArray.empty]) i o = (o ++ l.map (·.1), 0, 0)
  | [], i, o, w, _, _ => by simpa using lines_end i o
  | p :: l, i, o, w, h, hi => by
    rw [List.length_cons] at hi
    have h1 := lines_of l (i + 1) (o ++ [p.1]) w (fun q hq => h q (by simp [hq])) (by omega)
    rw [List.map_cons, List.cons_append, lines_next (by simp) (by omega) (frOf_line (h p (by simp)) w), h1]
    simp
theorem lines_cat {l : List (Fr × Value)} (h : ∀ p ∈ l, checkB p.1 = true) (hl : l.length ≤ 512) (w : World) : linesGo (splB 10 (catB l)) 0 [] = (l.map (·.1), 0, 0) := by
  rw [cat_spl l h, lines_of l 0 [] w h (by omega)]
  simp
theorem cat_parts {l : List (Fr × Value)} (h : ∀ p ∈ l, checkB p.1 = true) : ∀ x ∈ splB 10 (catB l), x.size ≤ 25000 := by
  intro x hx
  rw [cat_spl l h] at hx
  rcases List.mem_append.1 hx with hx | hx
  · obtain ⟨⟨⟨ty, st, en, da, ki, on, we, ex, co, la, n, ps⟩, pv⟩, hp, rfl⟩ := List.mem_map.1 hx
    exact Nat.le_trans (line_size _ _ _ _ _ _ _ _ _ _ _ _ (h _ hp)) (by decide)
  · simp at hx; subst hx; decide
theorem all_light {l : List (Fr × Value)} (h : ∀ p ∈ l, p.1.ps.length ≤ 30000) {m : List (Fr × Value)} (e : m.map (·.1) = l.map (·.1)) : ∀ p ∈ m, p.1.ps.length ≤ 30000 := by
  intro p hp
  have : p.1 ∈ l.map (·.1) := by rw [← e]; exact List.mem_map_of_mem (f := fun p : Fr × Value => p.1) hp
  obtain ⟨q, hq, e⟩ := List.mem_map.1 this
  rw [← e]
  exact h q hq
/-- What linesGo gives are right frames. -/
theorem frOf_check {s : ByteArray} {f : Fr} (h : frOf s = some f) : checkB f = true := by
  unfold frOf at h
  split at h
  · rename_i hh
    injection h with h
    rw [← h]
    exact hh.choose_spec.1
  · cases h
theorem linesGo_check : ∀ (ws : List ByteArray) (i : Nat) (o : List Fr), (∀ f ∈ o, checkB f = true) → o.length ≤ i → i ≤ 512 → (∀ f ∈ (linesGo ws i o).1, checkB f = true) ∧ (linesGo ws i o).1.length ≤ 512
  | [], i, o, h, hl, hi => by unfold linesGo; exact ⟨h, Nat.le_trans hl hi⟩
  | [p], i, o, h, hl, hi => by
    unfold linesGo
    split
    · exact ⟨h, Nat.le_trans hl hi⟩
    · exact ⟨by simp, by simp⟩
  | p :: q :: r, i, o, h, hl, hi => by
    rw [linesGo]
    split
    · exact ⟨by simp, by simp⟩
    · split
      · exact ⟨by simp, by simp⟩
      · rename_i f hf
        exact linesGo_check (q :: r) (i + 1) (o ++ [f]) (fun g hg => by
          rcases List.mem_append.1 hg with hg | hg
          · exact h g hg
          · simp at hg; subst hg; exact frOf_check hf) (by simp; omega) (by omega)
theorem check_ps {f : Fr} (h : checkB f = true) : f.ps.length ≤ 30000 := by
  obtain ⟨ty, st, en, da, ki, on, we, ex, co, la, n, ps⟩ := f
  have := (fits_of_check _ _ _ _ _ _ _ _ _ _ _ _ h).1.2.2.2.2.2.2.2.1
  simp only at this ⊢
  omega

/-- A frame's cells, of a slice whose place is known. -/
theorem Frs.cells {w : World} {b off n c : Nat} {l : List (Fr × Value)} (h : Frs w (.slice (some ⟨b, off, none⟩) n c) l) {k : Nat} {p : Fr × Value} (hp : l[k]? = some p) :
      w.cell? ⟨b, off + k * 12, none⟩ = some (.int .i64 p.1.ty) ∧ w.cell? ⟨b, off + k * 12 + 1, none⟩ = some (.int .i64 p.1.st) ∧ w.cell? ⟨b, off + k * 12 + 2, none⟩ = some (.bool p.1.en) ∧
      w.cell? ⟨b, off + k * 12 + 3, none⟩ = some (.string p.1.da) ∧ w.cell? ⟨b, off + k * 12 + 4, none⟩ = some (.int .i64 p.1.ki) ∧ w.cell? ⟨b, off + k * 12 + 5, none⟩ = some (.int .i64 p.1.on) ∧
      w.cell? ⟨b, off + k * 12 + 6, none⟩ = some (.int .i64 p.1.we) ∧ w.cell? ⟨b, off + k * 12 + 7, none⟩ = some (.bool p.1.ex) ∧ w.cell? ⟨b, off + k * 12 + 8, none⟩ = some (.int .i64 p.1.co) ∧
      w.cell? ⟨b, off + k * 12 + 9, none⟩ = some (.int .i64 p.1.la) ∧ w.cell? ⟨b, off + k * 12 + 10, none⟩ = some (.int .i64 p.1.n) ∧ w.cell? ⟨b, off + k * 12 + 11, none⟩ = some p.2 := by
  obtain ⟨b2, off2, cap2, e, -, -, hc⟩ := h.get hp
  injection e with e1 e2 e3
  injection e1 with e1
  injection e1 with e4 e5
  subst e4 e5
  exact hc
/-- What two readings of one text give. -/
theorem lines_same {s : ByteArray} {l1 l2 : List (Fr × Value)} {n1 n2 : Nat} {r1 r2 : Int} (h1 : linesGo (splB 10 s) 0 [] = (l1.map (·.1), n1, r1)) (h2 : linesGo (splB 10 s) 0 [] = (l2.map (·.1), n2, r2)) :
    l1.map (·.1) = l2.map (·.1) ∧ n2 = n1 ∧ r2 = r1 ∧ l1.length ≤ 100000 ∧ ∀ p ∈ l1, p.1.ps.length ≤ 30000 := by
  have hk := linesGo_check (splB 10 s) 0 [] (by simp) (by simp) (by omega)
  rw [h1] at hk
  have e := h1.symm.trans h2
  injection e with e1 e2
  injection e2 with e2 e3
  refine ⟨e1, e2.symm, e3.symm, by have := hk.2; simp at this; omega, fun p hp => ?_⟩
  exact check_ps (hk.1 p.1 (List.mem_map_of_mem (f := fun p : Fr × Value => p.1) hp))

/-! ### The reference's Same, of frames -/
set_option maxRecDepth 100000 in
set_option maxHeartbeats 6400000 in
theorem rsame_all (l1 l2 : List (Fr × Value)) (v1 v2 : Value) (w : World) (h1 : Frs w v1 l1) (h2 : Frs w v2 l2) (he : l1.map (·.1) = l2.map (·.1)) (hn : l1.length ≤ 100000) (hp : ∀ p ∈ l1, p.1.ps.length ≤ 30000) :
    Calls Tryd.prog 17 #[v1, v2] w fun e w' => e = .returned (.bool true) ∧ Below w.heap.size w w' := by
  obtain ⟨a1, d1, rfl, hc1, -, -⟩ := RdL.cap_of h1.1
  obtain ⟨a2, d2, rfl, hc2, -, -⟩ := RdL.cap_of h2.1
  obtain ⟨m, hm⟩ : ∃ m, l1.length = m := ⟨_, rfl⟩
  have hm2 : l2.length = m := by have := congrArg List.length he; simp at this; omega
  have hF : ∀ k, k < m → ∃ f u1 u2, l1[k]? = some (f, u1) ∧ l2[k]? = some (f, u2) ∧ f.ps.length ≤ 30000 := fun k hk => by
    have e1 : l1[k]? = some l1[k] := List.getElem?_eq_getElem _
    have e2 : l2[k]? = some l2[k] := List.getElem?_eq_getElem _
    have e3 : (l1.map (·.1))[k]? = (l2.map (·.1))[k]? := by rw [he]
    rw [List.getElem?_map, List.getElem?_map, e1, e2] at e3
    injection e3 with e3
    exact ⟨l1[k].1, l1[k].2, l2[k].2, e1, by rw [e2]; exact congrArg some (Prod.ext e3.symm rfl), hp _ (List.mem_of_getElem? e1)⟩
  rw [hm] at hc1 hn
  rw [hm2] at hc2
  simp only [hm, hm2]
  have HX := Lib.hid (And.intro h1 (And.intro h2 (And.intro hF (And.intro hm hm2))))
  clear h1 h2 hF hm hm2 he hp
  go_enter Tryd.func17, Tryd.ntmps17
  go_wp2_with fail
  go_loopw [5] (fun i wr => ∃ k : Nat, k ≤ m ∧ i = .int .i64 k ∧ Hid (Below w.heap.size w wr)) (fun i _ => m - (RowKit.intOf i).toNat)
  case atStart => exact ⟨0, Nat.zero_le _, rfl, Lib.hid (Below.refl _ _)⟩
  case round =>
    obtain ⟨k, hk, rfl, HK⟩ := hrel
    rcases (show k < m ∨ k = m by omega) with hlt | rfl
    · obtain ⟨⟨ty, st, en, da, ki, on, we, ex, co, la, n, ps⟩, u1, u2, g1, g2, hps⟩ := HX.out.2.2.1 k hlt
      have r1 := HX.out.1.below HK.out
      have r2 := HX.out.2.1.below HK.out
      have p1 := r1.2 _ (List.mem_of_getElem? g1)
      have p2 := r2.2 _ (List.mem_of_getElem? g2)
      obtain ⟨b, off, cap, e1, -, hb, c0, c1, c2, c3, c4, c5, c6, c7, c8, c9, c10, c11⟩ := r1.get g1
      obtain ⟨b2, off2, cap2, e2, -, hb2, x0, x1, x2, x3, x4, x5, x6, x7, x8, x9, x10, x11⟩ := r2.get g2
      injection e1 with e1 _ e3
      injection e2 with e2 _ e4
      subst e1 e2 e3 e4
      simp only at c0 c1 c2 c3 c4 c5 c6 c7 c8 c9 c10 c11 x0 x1 x2 x3 x4 x5 x6 x7 x8 x9 x10 x11 p1 p2 hps
      obtain ⟨ua, uc, rfl, -, -, -⟩ := RdL.cap_of p1
      obtain ⟨va, vc, rfl, -, -, -⟩ := RdL.cap_of p2
      obtain ⟨q, hq⟩ : ∃ q, ps.length = q := ⟨_, rfl⟩
      have hdr := fun d => below_drewN (Below.refl wr.heap.size wr) d
      have hsm := fun d => rsame_any ty st en da ki on we ex co la n _ _ ps hps (wr.drewN d) (RdL.below p1 (hdr d)) (RdL.below p2 (hdr d))
      rw [hq] at c11 x11 hsm
      have hS : ∀ w', Below wr.heap.size wr w' → (w'.cell? ⟨b, off + k * 12, none⟩ = some (.int .i64 ty) ∧ w'.cell? ⟨b, off + k * 12 + 1, none⟩ = some (.int .i64 st) ∧ w'.cell? ⟨b, off + k * 12 + 2, none⟩ = some (.bool en) ∧ w'.cell? ⟨b, off + k * 12 + 3, none⟩ = some (.string da) ∧ w'.cell? ⟨b, off + k * 12 + 4, none⟩ = some (.int .i64 ki) ∧ w'.cell? ⟨b, off + k * 12 + 5, none⟩ = some (.int .i64 on) ∧ w'.cell? ⟨b, off + k * 12 + 6, none⟩ = some (.int .i64 we) ∧ w'.cell? ⟨b, off + k * 12 + 7, none⟩ = some (.bool ex) ∧ w'.cell? ⟨b, off + k * 12 + 8, none⟩ = some (.int .i64 co) ∧ w'.cell? ⟨b, off + k * 12 + 9, none⟩ = some (.int .i64 la) ∧ w'.cell? ⟨b, off + k * 12 + 10, none⟩ = some (.int .i64 n) ∧ w'.cell? ⟨b, off + k * 12 + 11, none⟩ = some (.slice ua q uc)) ∧ (w'.cell? ⟨b2, off2 + k * 12, none⟩ = some (.int .i64 ty) ∧ w'.cell? ⟨b2, off2 + k * 12 + 1, none⟩ = some (.int .i64 st) ∧ w'.cell? ⟨b2, off2 + k * 12 + 2, none⟩ = some (.bool en) ∧ w'.cell? ⟨b2, off2 + k * 12 + 3, none⟩ = some (.string da) ∧ w'.cell? ⟨b2, off2 + k * 12 + 4, none⟩ = some (.int .i64 ki) ∧ w'.cell? ⟨b2, off2 + k * 12 + 5, none⟩ = some (.int .i64 on) ∧ w'.cell? ⟨b2, off2 + k * 12 + 6, none⟩ = some (.int .i64 we) ∧ w'.cell? ⟨b2, off2 + k * 12 + 7, none⟩ = some (.bool ex) ∧ w'.cell? ⟨b2, off2 + k * 12 + 8, none⟩ = some (.int .i64 co) ∧ w'.cell? ⟨b2, off2 + k * 12 + 9, none⟩ = some (.int .i64 la) ∧ w'.cell? ⟨b2, off2 + k * 12 + 10, none⟩ = some (.int .i64 n) ∧ w'.cell? ⟨b2, off2 + k * 12 + 11, none⟩ = some (.slice va q vc)) := fun w' h => by
        have z1 := (r1.below h).cells g1
        have z2 := (r2.below h).cells g2
        simp only [hq] at z1 z2
        exact ⟨z1, z2⟩
      have k0 : (0 : Int) ≤ (k : Int) := by omega
      have k1 : (k : Int) < (m : Int) := by omega
      have n1 : (k : Int).toNat = k := by omega
      have w6 : IntKind.i64.wrap ((k : Int) + 1) = (k : Int) + 1 := IntWalk.i64_in _ (by omega)
      have HN := Lib.hid (And.intro hsm (And.intro hS (And.intro hdr (And.intro HK.out hlt))))
      clear hsm hS hdr hlt hk p1 p2 r1 r2 hb hb2 g1 g2 hps hq HK c0 c1 c2 c3 c4 c5 c6 c7 c8 c9 c10 c11 x0 x1 x2 x3 x4 x5 x6 x7 x8 x9 x10 x11
      go_wp2_with fail
      go_region_held3 (fun w' => (w'.cell? ⟨b, off + k * 12, none⟩ = some (.int .i64 ty) ∧ w'.cell? ⟨b, off + k * 12 + 1, none⟩ = some (.int .i64 st) ∧ w'.cell? ⟨b, off + k * 12 + 2, none⟩ = some (.bool en) ∧ w'.cell? ⟨b, off + k * 12 + 3, none⟩ = some (.string da) ∧ w'.cell? ⟨b, off + k * 12 + 4, none⟩ = some (.int .i64 ki) ∧ w'.cell? ⟨b, off + k * 12 + 5, none⟩ = some (.int .i64 on) ∧ w'.cell? ⟨b, off + k * 12 + 6, none⟩ = some (.int .i64 we) ∧ w'.cell? ⟨b, off + k * 12 + 7, none⟩ = some (.bool ex) ∧ w'.cell? ⟨b, off + k * 12 + 8, none⟩ = some (.int .i64 co) ∧ w'.cell? ⟨b, off + k * 12 + 9, none⟩ = some (.int .i64 la) ∧ w'.cell? ⟨b, off + k * 12 + 10, none⟩ = some (.int .i64 n) ∧ w'.cell? ⟨b, off + k * 12 + 11, none⟩ = some (.slice ua q uc)) ∧ (w'.cell? ⟨b2, off2 + k * 12, none⟩ = some (.int .i64 ty) ∧ w'.cell? ⟨b2, off2 + k * 12 + 1, none⟩ = some (.int .i64 st) ∧ w'.cell? ⟨b2, off2 + k * 12 + 2, none⟩ = some (.bool en) ∧ w'.cell? ⟨b2, off2 + k * 12 + 3, none⟩ = some (.string da) ∧ w'.cell? ⟨b2, off2 + k * 12 + 4, none⟩ = some (.int .i64 ki) ∧ w'.cell? ⟨b2, off2 + k * 12 + 5, none⟩ = some (.int .i64 on) ∧ w'.cell? ⟨b2, off2 + k * 12 + 6, none⟩ = some (.int .i64 we) ∧ w'.cell? ⟨b2, off2 + k * 12 + 7, none⟩ = some (.bool ex) ∧ w'.cell? ⟨b2, off2 + k * 12 + 8, none⟩ = some (.int .i64 co) ∧ w'.cell? ⟨b2, off2 + k * 12 + 9, none⟩ = some (.int .i64 la) ∧ w'.cell? ⟨b2, off2 + k * 12 + 10, none⟩ = some (.int .i64 n) ∧ w'.cell? ⟨b2, off2 + k * 12 + 11, none⟩ = some (.slice va q vc))) (first | exact HN.out.2.1 _ hb5 | exact HN.out.2.1 _ (HN.out.2.2.1 1))
        (first | (go_at_call 14; go_must (refine (HN.out.1 1).mono ?_); rintro e5 w5 ⟨rfl, hm5⟩
                  have hb5 : Below wr.heap.size wr w5 := (HN.out.2.2.1 1).trans (hm5.mono (HN.out.2.2.1 1).size)))
      have H5 := Lib.hid (HN.out.2.2.2.1.trans (hb5.mono HN.out.2.2.2.1.size))
      clear hb5 hm5
      go_wp2_with fail
      refine ⟨⟨k + 1, HN.out.2.2.2.2, rfl, H5⟩, ?_⟩
      have := HN.out.2.2.2.2
      show m - ((k : Int) + 1).toNat < m - (k : Int).toNat
      omega
    · have k1 : ¬ ((k : Nat) : Int) < (k : Int) := by omega
      go_wp2_with fail
      go_ret
      exact ⟨rfl, HK.out⟩

end Go.Proofs.YtebiidfpgdolnaaDoor.Dmp
